/- PrsKeysW MemW MemR MemG FilDown -/
import Derived.Test.YtmbbhdebddbhoaaGreatR24
set_option maxHeartbeats 4000000
set_option maxRecDepth 100000
set_option linter.all false
namespace Go.Proofs.YtmbbhdebddbhoaaGreat
open Tryz
namespace Prs
open Go.RowKit Go.Maps Go.Shelf
open Fil Man Wal Sha
attribute [local go_sem] Om
attribute [local go_sem ↓] nS
def aN(w:World)(ks:List T)(W:World):Prop:=∃ v,IG w.heap.size w w.heap.size W ks v
theorem avD{w W W':World}{Bx:Nat}{ks:List T}{cs:Array Value}(h:aN w ks W)(hb:W.heap[Bx]?=some (.cells cs 22))(hB:w.heap.size≤Bx)(hu:A7 (fun k=>k=Bx) W W'):aN w ks W':=by
 obtain⟨v,h⟩:=h;obtain⟨n1,n2⟩:=h.kind hb (by decide) (by decide);exact⟨v,h.upd hu (fun k e=>by rw[e];exact hB) n1 (fun k hk e=>n2 (by rw[hk,e]))⟩
theorem aks{w:World}{B:Nat}(hB:w.heap.size≤B)(ks:List T):NU B (aN w ks):=
 ⟨fun A l o o' hl ⟨v,h⟩ ho hc=>⟨v,h.put ho hc (Ap hB hl)⟩,fun A o ⟨v,h⟩=>⟨v,h.below (Aw A o)⟩⟩
theorem asI{W1:World}{Bx g B:Nat}{Z:M}{J:List T→World→Prop}(hJ:∀ ks,NU B (J ks))(xs:List (Value×T)):NU B (eY W1 Bx g Z J xs):=
 ⟨fun A l o o' hl ⟨R,q,c,h1,h2,h3,h4⟩ ho hc=>⟨R,q,c,h1.put ho hc,h2,h3,(hJ _).1 A l o o' hl h4 ho hc⟩,fun A o ⟨R,q,c,h1,h2,h3,h4⟩=>⟨R,q,c,h1.below (Aw A o),h2,h3,(hJ _).2 A o h4⟩⟩
theorem yG{A:World}{p:Addr}{v:Value}{l:Nat}{o o':Obj}(h:A.cell? p=some v)(ho:A.heap[l]?=some o)(hc:o.isCells=false):(A.putObj l o').cell? p=some v:=by
 refine(World.cell?_of_block (World.putObj_heap_other (fun e=>?_))).trans h;unfold World.cell? at h;rw[e,ho] at h;cases o<;>simp[Obj.isCells] at hc h
theorem asK{W1:World}{Bx g B:Nat}{Z:M}{J:List T→World→Prop}(hJ:∀ ks,NU B (J ks))(xs:List (Value×T))(x:Value×T):NU B (uV W1 Bx g Z J xs x):=
 ⟨fun A l o o' hl ⟨R,q,c,h1,h2,h3,h4,p,n,c',h5,h6,h7⟩ ho hc=>⟨R,q,c,h1.put ho hc,h2,h3,(hJ _).1 A l o o' hl h4 ho hc,p,n,c',h5,yG h6 ho hc,h7⟩,
  fun A o ⟨R,q,c,h1,h2,h3,h4,p,n,c',h5,h6,h7⟩=>⟨R,q,c,h1.below (Aw A o),h2,h3,(hJ _).2 A o h4,p,n,c',h5,((Aw A o).cell (BS h6)).trans h6,h7⟩⟩
theorem dL{w:World}{q:Option Addr}{cap:Nat}{l:M}(h:AO w q l)(hq:q=none→cap=0)(hl:l.length≤1000000):
  Calls prog 61 #[.slice q l.length cap] w fun e w'=>∃ v,e=.returned v∧Man.Bp w' w.heap.size v (Dx l)∧Bw w w':=by
 refine(Di (n:=3)).1 ?_;have P6:prog.follows .mixedOrders=true:=by kernel_rfl
 have HS:=Hi (fun(W:World) (hW:Bw w W)=>amU _ W q cap l (Ac _) (h.below hW) hq hl);have NQ:=Hi (dZ l);have HK:=Hi (au2 l);clear h hq;refine callsIn_of_wp_marks func61 rfl trivial ?_ rfl;simp only[ntmps61,JG,Br,Ig,Nat.reduceAdd,Nat.reduceSub,LX,LY,M3,LZ,Eu,GI]
 gi_wp2
 have Bq:=Aw w (.cells #[.slice none 0 0] 27);have ht0:IG w.heap.size w w.heap.size (w.alloc (.cells #[.slice none 0 0] 27)) [] (.slice none 0 0):=⟨Bq,Ac _,Bq.size,AJ w _,by unfold strCells;exact EI _ _ _ _⟩;have Wu:=Hi ht0;refine⟨trivial,(Di.2 (HS _ Bq)).mono ?_⟩;rintro e w1⟨v1,rfl,h1,Ad⟩;obtain⟨q1,c1,rfl,Ef,Gw⟩:=Es h1;have GK:=Hi (Wu.below Ad);have Ew:=Hi h1;have W9:=Hi Gw;clear Bq ht0 h1 Ad Ef Gw Wu HS
 gi_wp2
 refine⟨trivial,(Di.2 (asS q1 _ c1 _)).mono ?_⟩;rintro e w2⟨rfl,Ns⟩;subst Ns
 gi_wp2
 have Hu:=Hi (AJ w1 (.cells #[.slice q1 (EG l).length c1] 22));have Yl:=Hi (GK.below (Aw w1 (.cells #[.slice q1 (EG l).length c1] 22)));have ny:=Hi (C9 Ew (Aw w1 (.cells #[.slice q1 (EG l).length c1] 22)));have Ku:=Hi GK.size;obtain⟨Bx,K8⟩:=ex (w1.heap.size);rw[K8] at Hu Ku ⊢;obtain⟨U,hU⟩:=ex (w1.alloc (.cells #[.slice q1 (EG l).length c1] 22));rw[hU] at Hu Yl ny ⊢;obtain⟨g,hg⟩:∃ g,∀ p,q1=some p→p.block=g:=by
  cases q1 with
  |none=>exact⟨0,fun p e=>by cases e⟩
  |some p=>exact⟨p.block,fun p' e=>by cases e;rfl⟩
 have PD:=Hi (show JJ U Bx g (EG l) q1 c1 U from⟨Hu,AO.CG ny,fun p e _=>hg p e,fun hne=>by
  rcases ny.2 with⟨e1,e2⟩|⟨g',cap',cur,e1,_,O5,_⟩
  ·exact absurd (Ld.1 e2) hne
  ·injection e1 with e2
   have:=hg _ e2;subst this;exact⟨_,_,O5,O5⟩,W9,by rw[NQ.out];exact hl⟩)
 clear K8 hU hg GK Ew W9 ny;refine ao2 (s:=3) (by omega) (gf:=188) (lb:=#[.pointer (some ⟨Bx,0,none⟩)]) rfl (enters_of func188 (by kernel_rfl) rfl) (e:=fun x:Value×T=>x.1)
  (Ia:=eY U Bx g (EG l) (aN w)) (Iy:=uV U Bx g (EG l) (aN w)) (fun xs=>asI (fun ks=>aks Yl.size ks) xs) (fun xs x=>asK (fun ks=>aks Yl.size ks) xs x)
  (asR 2 (by omega) U Bx g (EG l) (J:=aN w) (fun ks W W' cs h hb hu=>avD h hb Ku hu) U) ⟨EG l,q1,c1,PD,rfl,rfl,_,Yl⟩
  ?assign ?body ?done
 case assign=>
  intro l x W K hK;simp only[np] at hK ⊢
  gi_wp2
  exact hK
 case body=>
  intro l2 pre x W hy;obtain⟨R,q2,c2,hG,YJ,hZ,⟨v,hT⟩,p,n,c',hx,FE,hn⟩:=hy;obtain⟨xv,xk⟩:=x;obtain⟨qv,cv,rfl⟩:=Bg hT.row;simp only at hx FE hZ;subst hx;have hlen:(pre.map (·.2)).length≤1000000:=by
   have h1:=congrArg List.length hZ;rw[HK.out,Au] at h1;have h2:=Un (l.map (·.1));rw[Cf] at h2;unfold Dx at h1;omega
  obtain⟨g7,nV,w7,U9,Oa,IK⟩:=azv (W:=W.drew) xk hT.row.drew (by omega) hT.size;have KI:Bw W (W.drew.alloc (.cells #[.string (bs xk)] 9)):=((Af _ W).drew).alloc (Ac _) _;have uX:=Hi (hT.add KI IK (k:=[xk]) Oa);have gu:=Hi (hT.keeps KI IK (.slice (some ⟨g7,0,none⟩) ((pre.map (·.2)).length+1) nV))
  have HGN:=Hi (show JJ U Bx g R q2 c2 (w7.setCell ⟨w.heap.size,0,none⟩ (.slice (some ⟨g7,0,none⟩) ((pre.map (·.2)).length+1) nV)) from⟨hT.other KI IK _ hG.box (by decide) (by decide),hG.at_,hG.blk,fun hne=>by
   obtain⟨cs,fr,k1,k2⟩:=hG.src hne;exact⟨cs,fr,k1,hT.other KI IK _ k2 (by decide) (by decide)⟩,hG.cap,hG.small⟩)
  have Q7:=(IK.block w.heap.size (by rw[Aq];exact Nat.lt_succ_of_lt (Ai hT.box)) (fun e=>(hT.ne e.symm).1 rfl)).trans ((KI.block _ (Ai hT.box)).trans hT.box);have bK:w7.cell? ⟨w.heap.size,0,none⟩=some (.slice qv (pre.map (·.2)).length cv):=cr Q7;have bN:=CJ w7 w.heap.size 0 _ _ Q7;have cb:W.cell? ⟨w.heap.size,0,none⟩=some (.slice qv (pre.map (·.2)).length cv):=cr hT.box;have Cu:∀ V,(Instr.indexAt 22 (.slice (some p) (n+1) c') (.int .i64 0)).run prog V=.ok (.pointer (some p)) V:=fun V=>by
   have:=Hr prog _ 75 underlying22 2 (by kernel_rfl) p (n+1) c' 0 (by omega) V;rw[Nat.zero_mul,add_zero'] at this;exact this
  have HZ:=Hi hZ;have TC:=Hi YJ;have ai4:=Ai hT.box;have dh:=BS FE;have aCf:(Yy #[27,27] 27 #[.slice qv (pre.map (·.2)).length cv,.slice (some ⟨W.heap.size,0,none⟩) 1 1]).run prog (W.alloc (.cells #[.string (bs xk)] 9)).drew=.ok (.slice (some ⟨g7,0,none⟩) ((pre.map (·.2)).length+1) nV) w7:=U9;generalize (pre.map (·.2)).length=m at*;clear hG YJ hZ hT U9 Oa IK KI Q7 hlen;simp only[np]
  gi_wp2
  gi_region_with_o (fail)
  all_goals
   refine⟨gu,R,q2,c2,HGN,by rw[Au];exact TC.out,by rw[HZ.out,CF];simp,.slice (some ⟨g7,0,none⟩) (m+1) nV,?_⟩;rw[CF];exact uX.out
 case done=>
  intro D xs W hD hS hI FM;obtain⟨R,q2,c2,hG,YJ,hZ,⟨v,hT⟩⟩:=hI;rw[hS,HK.out] at hT;obtain⟨qv,cv,rfl⟩:=Bg hT.row;have HT:=Hi hT;have UB:=Hi FM;have HD:=Hi (show w.heap.size≤D from Ap Yl.size hD);have cb:W.cell? ⟨w.heap.size,0,none⟩=some (.slice qv (Dx l).length cv):=cr hT.box;have hfz:=CJ W w.heap.size 0 _ _ hT.box;have hu:=(A7.refl (fun k=>k=w.heap.size) W).setCell (p:=⟨w.heap.size,0,none⟩) (.inl rfl) (.slice qv (Dx l).length cv);have TW:=BU W w.heap.size 0 _ _ (.slice qv (Dx l).length cv) hT.box
  have Jl:=Hi (show(W.setCell ⟨w.heap.size,0,none⟩ (.slice qv (Dx l).length cv)).heap[D]?=some (.deferred (some [])) from(hu.block D (CR.1 FM).1 (fun e=>by
   rw[e,hT.box] at FM;cases FM)).trans FM)
  have Vb:IG w.heap.size w w.heap.size (W.setCell ⟨w.heap.size,0,none⟩ (.slice qv (Dx l).length cv)) (Dx l) (.slice qv (Dx l).length cv):=
   ⟨hT.Ay.setCell (p:=⟨w.heap.size,0,none⟩) (Ac _) _,hT.low,Ap hT.size hu.size,TW,Bh hT.row hu (fun k hk=>(hT.ne hk).1)⟩
  have xB:=Hi (Vb.put (o':=.deferred none) Jl rfl HD);have fC:=Hi (show((W.setCell ⟨w.heap.size,0,none⟩ (.slice qv (Dx l).length cv)).putObj D (.deferred none)).cell? ⟨w.heap.size,0,none⟩=some (.slice qv (Dx l).length cv) from cr xB.box);clear hG YJ hZ hT hS FM hD hu TW Vb
  gi_wp2
  refine⟨by simp,.inl ⟨_,_,rfl,run_takeDeferred Jl,?_⟩⟩;exact⟨_,(by simp[results,results61,go_sem,fC.out]),_,rfl,xB.row,xB.Ay⟩
end Prs
namespace Mem
open Go.RowKit Go.Maps
open Fil Man Prs Kp Cm Hex Sha
theorem sF(k:T)(w:World)(hk:k.length≤1000000):Calls prog 66 #[.string (bs k)] w fun e w'=>e=.returned (.string (bs (Ae.nm k)))∧Bw w w':=by
 have hm:({ data:=#[109] }:ByteArray)=bs [109]:=rfl;have hcut:∀ W,(Instr.slice 9 (.string (bs (Eh k))) none (some (.int .i64 8)) none).run prog W=.ok (.string (bs ((Eh k).take 8))) W:=fun W=>Ny prog W 9 underlying9 (Eh k) 8 (by rw[T9];decide)
 have HE:=Hi (show Ae.nm k=[109]++EA ((Eh k).take 8) from rfl);have hl:(EA ((Eh k).take 8)).length=16:=by rw[YR,AL,T9];rfl
 have HS:=Hi (amG k hk w);have HH:=Hi (fun(W:World)=>aio ((Eh k).take 8) W (by rw[AL,T9];decide));rw[HE.out];generalize Eh k=s at*;generalize EA (s.take 8)=h at*;go_enter func66,ntmps66;go_wp2_with fail;refine HS.mono ?_;rintro e w1⟨rfl,Ad⟩;have HB1:=Hi Ad;clear Ad;go_wp2_with fail;refine(HH _).mono ?_;rintro e w2⟨rfl,A8⟩;have Ag:=Hi (HB1.trans (A8.mono HB1.size));clear A8;go_wp2_with fail;go_ret;exact⟨rfl,Ag⟩
theorem sV{c:UInt8}{name:T}(h:¬ (name.length=17∧name.head?=some c)):MJ c name=false:=by
 unfold MJ;by_cases h1:name.length=17
 ·by_cases h2:name.head?=some c
  ·exact absurd ⟨h1,h2⟩ h
  ·have:(name.head? == some c)=false:=(by simpa using h2);rw[this];simp
 ·have:(name.length == 17)=false:=by simpa using h1
  rw[this];simp
theorem alk{c:UInt8}{name:T}(h1:name.length=17)(h2:name.head?=some c):MJ c name=(unhexT (name.drop 1)).isSome:=by
 unfold MJ;rw[h1,h2];simp
theorem anz(s:T):decide ((Pm s).2=0)=(unhexT s).isSome:=by
 unfold Pm;cases unhexT s<;>rfl
theorem awu(name:T)(w:World)(hn:name.length≤1000000):Calls prog 118 #[.string (bs name)] w fun e w'=>e=.returned (.bool (Ae.ours name))∧Bw w w':=by
 show Calls _ _ _ _ fun e w'=>e=.returned (.bool (MJ 109 name))∧_
 by_cases h1:name.length=17
 ·have zN:(name.length:Int)=17:=by omega
  have hlt:0 < name.length:=by omega
  have jF:(0:Int) < (name.length:Int):=by omega
  have hd:name.head?=some name[0]:=by
   cases name with
   |nil=>simp at h1
   |cons a l=>rfl
  by_cases h2:name[0]=109
  ·have hR:=Hi (alk (c:=109) h1 (by rw[hd,h2]));have hcut:∀ W,(Instr.slice 9 (.string (bs name)) (some (.int .i64 1)) none none).run prog W=.ok (.string (bs (name.drop 1))) W:=fun W=>LQ prog W 9 underlying9 name 1 (by omega)
   have iK:(name[0].toNat:Int)=109:=(by rw[h2];rfl);have HU:=Hi (anC (name.drop 1) w (by rw[Ce];omega));have HV:=Hi (anz (name.drop 1));rw[hR.out,←HV.out];generalize Pm (name.drop 1)=V at*;clear hd h2 HV hR;generalize name.drop 1=dn at*;go_enter func118,ntmps118;go_wp2_with fail;refine HU.mono ?_;rintro e w1⟨rfl,hb⟩;have HB:=Hi hb;clear hb;go_wp2_with fail;go_ret;exact⟨by simp;rfl,HB⟩
  ·have hR:Hid (MJ 109 name=false):=Hi (sV (fun h=>h2 (by have:=h.2;rw[hd] at this;injection this)));have iK:¬ (name[0].toNat:Int)=109:=fun e=>h2 (by apply UInt8.toNat_inj.1;have h9:(109:UInt8).toNat=109:=rfl;rw[h9];omega)
   rw[hR.out];clear hd h2;go_enter func118,ntmps118;go_wp2_with fail;go_ret;exact⟨rfl,Af _ _⟩
 ·have zN:¬ (name.length:Int)=17:=by omega
  have hR:Hid (MJ 109 name=false):=Hi (sV (fun h=>h1 h.1));rw[hR.out];go_enter func118,ntmps118;go_wp2_with fail;go_ret;exact⟨rfl,Af _ _⟩
end Mem
namespace Mem
open Go.RowKit Go.Maps
open Wal Fil Man Prs Kp Cm Hex Sha
theorem eu:∀ {L:List T} {a:T},textsE L=some a→∀ t∈L,t.length≤65535
 |[],_,_,t,h=>by simp at h
 |x :: L,a,h,t,ht=>by
  simp only[textsE] at h;cases h1:DJ x with
  |none=>rw[h1] at h;cases h
  |some u=>
   cases h2:textsE L with
   |none=>rw[h1,h2] at h;cases h
   |some c=>
    rcases Bt.1 ht with rfl|ht
    ·unfold DJ at h1;split at h1
     ·assumption
     ·cases h1
    ·exact eu h2 t ht
theorem zG{s:T}{l:M}(h:GN s=some l):l.length≤65535∧∀ p∈l,p.1.length≤65535∧p.2.length≤65535:=by
 have h2:=(agY h).2;unfold Fh at h2;split at h2
 ·rename_i hn
  cases h1:textsE (flat l) with
  |none=>rw[h1] at h2;cases h2
  |some a=>
   refine⟨hn,fun p hp=>⟨eu h1 _ (MM.2 ⟨p,hp,by simp⟩),eu h1 _ (MM.2 ⟨p,hp,by simp⟩)⟩⟩
 ·cases h2
theorem dQ{K:Kind}{name data:T}{l:M}(h:K.Df name data=some l):l.length≤65535∧∀ p∈l,p.1.length≤65535∧p.2.length≤65535:=by
 obtain⟨_,h2,_,s,h4,_⟩:=Pj h;exact zG (p8 h4 (Cr.Qt h2))
def Lr(w:World)(r:Option M)(e:Ending)(w':World):Prop:=match r with
 |none=>e=.returned (.tuple #[.slice none 0 0,.bool false])∧Bw w w'
 |some l=>∃ q cap,e=.returned (.tuple #[.slice q l.length cap,.bool true])∧Bo w' w.heap.size (.slice q l.length cap) l∧(q=none→cap=0)∧Bw w w'
theorem La{w w':World}{r:Option M}{e:Ending}(h:r=none)(he:e=.returned (.tuple #[.slice none 0 0,.bool false]))(hb:Bw w w'):Lr w r e w':=by
 subst h;exact⟨he,hb⟩
theorem kX{w w':World}{r:Option M}{e:Ending}{l:M}{q:Option Addr}{cap:Nat}(h:r=some l)(he:e=.returned (.tuple #[.slice q l.length cap,.bool true]))(hr:Bo w' w.heap.size (.slice q l.length cap) l)(hq:q=none→cap=0)(hb:Bw w w'):Lr w r e w':=by
 subst h;exact⟨q,cap,he,hr,hq,hb⟩
theorem awl(name data:T):Ae.Df name data=if(Crc.Er data).2=0 then(GN (Crc.Er data).1).bind fun l=>if l≠[]∧(Dx l).length=l.length∧∀ p∈l,Ae.nm p.1=name then some l else none else none:=by
 unfold Kind.Df dR;have:∀ p:T×T,(Ae.ok p=true)=True:=fun p=>by simp[Ae]
 simp only[this,and_true]
theorem an9{P:T×T→Prop}{l:M}{k:Nat}(hk:k < l.length)(h:∀ p∈l.take k,P p)(hp:P l[k]):∀ p∈l.take (k+1),P p:=fun p h'=>by
 rw[Cw hk] at h';rcases Fp.1 h' with h'|h'
 ·exact h p h'
 ·rw[EX.1 h'];exact hp
def af7(w:World)(q:Option Addr)(cap:Nat)(l:M)(name:T)(i:Value)(wr:World):Prop:=∃ k:Nat,k≤l.length∧i=.int .i64 k∧Bw w wr∧Bo wr w.heap.size (.slice q l.length cap) l∧∀ p∈l.take k,Ae.nm p.1=name
theorem awx(name data:T)(w:World)(hd:data.length≤1000000):Calls prog 144 #[.string (bs name),.string (bs data)] w fun e w'=>Lr w (Ae.Df name data) e w':=by
 have PE:=Hi (awl name data);have HO:=Hi (alh data w (by omega));have Cz:(Crc.Er data).1.length≤1000000:=by
  by_cases h:(Crc.Er data).2=0
  ·have:=congrArg List.length (Crc.acf h);rw[Crc.Rk] at this;omega
  ·unfold Crc.Er at h ⊢;split
   ·simp
   ·split
    ·rename_i h1 h2
     rw[Aa h1,Ab h2] at h;exact absurd rfl h
    ·simp
 generalize (Crc.Er data).1=s at*;generalize (Crc.Er data).2=c at*;have HG:=Hi (fun(W:World)=>alv s W (by omega));by_cases hc:c=0
 ·subst hc;cases hg:GN s with
  |none=>
   have hR:Hid (Ae.Df name data=none):=Hi (by rw[PE.out,Ab rfl,hg];rfl);have CS:=Hi (show ∀ W,Calls prog 194 #[.string (bs s)] W fun e w'=>e=.returned (.tuple #[.slice none 0 0,.int .i64 7])∧Bw W w' from fun W=>by have:=HG W;unfold UW at this;rw[hg] at this;exact this);clear HG PE hg;go_enter func144,ntmps144;go_wp2_with fail;refine HO.mono ?_;rintro e w1⟨rfl,Ad⟩;have HB1:=Hi Ad;clear Ad;go_wp2_with fail;refine(CS _).mono ?_;rintro e w2⟨rfl,A8⟩;have Ag:=Hi (HB1.trans (A8.mono HB1.size));clear A8;go_wp2_with fail;go_ret2;exact La hR.out rfl Ag.out
  |some l=>
   have CS:=Hi (show ∀ W,Calls prog 194 #[.string (bs s)] W fun e w'=>∃ v,e=.returned (.tuple #[v,.int .i64 0])∧Bo w' W.heap.size v l∧Bw W w' from fun W=>by have:=HG W;unfold UW at this;rw[hg] at this;exact this);have Y5:=Hi (show Ae.Df name data=if l≠[]∧(Dx l).length=l.length∧∀ p∈l,Ae.nm p.1=name then some l else none from by rw[PE.out,Ab rfl,hg];rfl);obtain⟨hl,Nq⟩:=zG hg;have QP:=Hi Nq;clear HG PE hg Nq;by_cases hz:l=[]
   ·have hR:Hid (Ae.Df name data=none):=Hi (by rw[Y5.out,Aa (fun h=>h.1 hz)]);have AQ:(l.length:Int)=0:=(by rw[hz];rfl);clear hz;go_enter func144,ntmps144;go_wp2_with fail;refine HO.mono ?_;rintro e w1⟨rfl,Ad⟩;have HB1:=Hi Ad;clear Ad;go_wp2_with fail;refine(CS _).mono ?_;rintro e w2⟨v,rfl,Ah,A8⟩;obtain⟨q,cap,rfl,Gz,BH⟩:=Es Ah;have Ag:=Hi (HB1.trans (A8.mono HB1.size));clear A8 Ah;go_wp2_with fail;go_ret2;exact La hR.out rfl Ag.out
   ·have AQ:¬ (l.length:Int)=0:=fun e=>hz (Ld.1 (by omega))
    have hzb:((l.length:Int) == 0)=false:=H9.2 AQ;by_cases hk:(Dx l).length=l.length
    ·have fU:=Hi (show Ae.Df name data=if ∀ p∈l,Ae.nm p.1=name then some l else none from by
      rw[Y5.out];by_cases h:∀ p∈l,Ae.nm p.1=name
      ·rw[Ab ⟨hz,hk,h⟩,Ab h]
      ·rw[Aa (fun x=>h x.2.2),Aa h])
     have bR:((Dx l).length:Int)=(l.length:Int):=(by omega);go_enter func144,ntmps144;go_wp2_with fail;refine HO.mono ?_;rintro e w1⟨rfl,Ad⟩;have HB1:=Hi Ad;clear Ad;go_wp2_with fail;refine(CS _).mono ?_;rintro e w2⟨v,rfl,Ah,A8⟩;obtain⟨q,cap,rfl,Gz,BH⟩:=Es Ah;have Ag:=Hi (HB1.trans (A8.mono HB1.size));have CZ:=Hi (E9 Ah HB1.size);have Jm:=Hi (dL (w:=w2) (AO.CG Ah) Gz (by omega));clear A8 Ah;go_wp2_with fail;refine Jm.mono ?_;rintro e w3⟨kv,rfl,Ch,Ak⟩;obtain⟨kq,kc,rfl⟩:=Bg Ch;have JR:=Hi (C9 CZ Ak);have Am:=Hi (Ag.trans (Ak.mono Ag.size));clear Ak Ch;go_wp2_with fail
     go_loopw [10,40] (fun _ i wr=>af7 w q cap l name i wr) (fun _ i _=>l.length -(intOf i).toNat)
     case atStart=>exact⟨0,AB _,rfl,Am,JR,fun p h=>by simp at h⟩
     case round=>
      obtain⟨k,Db,rfl,hb,hr,AY⟩:=hrel;have HB:=Hi hb;have HR:=Hi hr;have HA:=Hi AY;clear AY Am JR hb;by_cases hlt:k < l.length
      ·obtain⟨a,Cu,ha,-⟩:=(AO.CG hr).index cap k hlt;have c0:=ha.key;have c1:=ha.val;have hsk:=(QP _ (Ci hlt)).1;have HT:=Hi (an9 (P:=fun p=>Ae.nm p.1=name) hlt HA)
       have HF:=Hi (show Ae.nm l[k].1≠name→Ae.Df name data=none from fun hne=>by
        rw[fU.out,Aa (fun h=>hne (h _ (Ci hlt)))])
       generalize l[k]=x at*;have HN:=Hi (fun(W:World)=>sF x.1 W (by omega));clear ha hr;go_wp2_with fail;refine(HN _).mono ?_;rintro e w4⟨rfl,Ar⟩;have Ma:=Hi (C9 (HR.alloc _) Ar);have AZ:=Hi ((HB.alloc HB.size _).trans (Ar.mono (by have:=HB.size;rw[Aq];omega)));clear Ar;have F3:=Hi (show Ae.nm x.1=name→∀ p∈l.take (k+1),Ae.nm p.1=name from HT.out);clear HT;generalize Ae.nm x.1=nx at*;by_cases heq:nx=name
       ·go_wp2_with fail;go_roundw
        case rel=>
         have JQ:=Hi (show af7 w q cap l name (.int .i64 ((k:Int)+1)) w4 from⟨k+1,by omega,by go_num,AZ,Ma,F3 heq⟩);exact JQ.out
        case measure=>
         show l.length -((k:Int)+1).toNat < l.length -((k:Int)).toNat
         omega
       ·have hR:=Hi (HF heq);have Ze:(nx == name)=false:=H9.2 heq;clear HF F3;go_wp2_with fail;go_ret2;exact La hR.out rfl AZ.out
      ·obtain rfl:k=l.length:=by omega
       have hR:Hid (Ae.Df name data=some l):=Hi (by
        rw[fU.out,Ab];have:=HA.out;rwa[CY] at this)
       clear hr;go_wp2_with fail;go_ret2;exact kX hR.out rfl HR Gz HB.out
    ·have hR:Hid (Ae.Df name data=none):=Hi (by rw[Y5.out,Aa (fun h=>hk h.2.1)]);have bR:¬ ((Dx l).length:Int)=(l.length:Int):=(by omega);have Kg:(((Dx l).length:Int) != (l.length:Int))=true:=bne_iff_ne.2 bR;go_enter func144,ntmps144;go_wp2_with fail;refine HO.mono ?_;rintro e w1⟨rfl,Ad⟩;have HB1:=Hi Ad;clear Ad;go_wp2_with fail;refine(CS _).mono ?_;rintro e w2⟨v,rfl,Ah,A8⟩;obtain⟨q,cap,rfl,Gz,BH⟩:=Es Ah;have Ag:=Hi (HB1.trans (A8.mono HB1.size));have Jm:=Hi (dL (w:=w2) (AO.CG Ah) Gz (by omega));clear A8 Ah;go_wp2_with fail;refine Jm.mono ?_;rintro e w3⟨kv,rfl,Ch,Ak⟩;obtain⟨kq,kc,rfl⟩:=Bg Ch;have Am:=Hi (Ag.trans (Ak.mono Ag.size));clear Ak Ch;go_wp2_with fail;go_ret2;exact La hR.out rfl Am.out
 ·have hR:Hid (Ae.Df name data=none):=Hi (by rw[PE.out,Aa hc]);clear HG PE;go_enter func144,ntmps144;go_wp2_with fail;refine HO.mono ?_;rintro e w1⟨rfl,Ad⟩;have HB1:=Hi Ad;clear Ad;go_wp2_with fail;go_ret2;exact La hR.out rfl HB1.out
def Fb(w:World)(p y:Nat):Prop:=w.heap[p]?=some (.cells #[.pointer (some ⟨y,0,none⟩)] 134)
theorem Fb.cell{w:World}{p y:Nat}(h:Fb w p y):w.cell? ⟨p,0,none⟩=some (.pointer (some ⟨y,0,none⟩)):=by
 rw[BA _ _ _ _ _ _ h];rfl
theorem Fb.lt{w:World}{p y:Nat}(h:Fb w p y):p < w.heap.size:=Ai h
theorem Fb.below{w w':World}{p y:Nat}(h:Fb w p y)(hb:Bw w w'):Fb w' p y:=(hb.block p (Ai h)).trans h
theorem Fb.upd{F:Nat→Prop}{w w':World}{p y:Nat}(h:Fb w p y)(hu:A7 F w w')(hF:¬ F p):Fb w' p y:=(hu.block p (Ai h) hF).trans h
theorem al7(y:Nat)(w:World):Calls prog 19 #[.pointer (some ⟨y,0,none⟩)] w fun e w'=>∃ p,e=.returned (.tuple #[.pointer (some ⟨p,0,none⟩),.int .i64 0])∧Fb w' p y∧w.heap.size≤p∧Bw w w':=by
 go_enter func19,ntmps19;go_wp2_with fail;go_ret2;exact⟨_,rfl,AJ w _,Ac _,Aw w _⟩
def OB(K:Kind)(w:World)(A:M)(name:T)(e:Ending)(w':World):Prop:=∃ q cap,e=.returned (.tuple #[.slice q ((fileOf K A name).getD []).length cap,.bool (Fil.get A name).isSome,.bool (fileOf K A name).isSome])∧Bo w' w.heap.size (.slice q ((fileOf K A name).getD []).length cap) ((fileOf K A name).getD [])∧(q=none→cap=0)∧Bw w w'
theorem VN(w:World)(base:Nat):Bo w base (.slice none 0 0) []:=by unfold Bo;rw[PV];exact EI _ _ _ _
theorem sG{w:World}{p y:Nat}{A:M}(hm:Fb w p y)(hg:Man.ND w y A)(name:T)(hn:name.length≤1000):Calls prog 67 #[.pointer (some ⟨p,0,none⟩),.string (bs name)] w fun e w'=>OB Ae w A name e w':=by
 have c:=hm.cell;have HG:=Hi (hg.gets w (Af _ _) name hn);have hs:=hg.small name;have HF:=Hi (show fileOf Ae A name=(Fil.get A name).bind (Ae.Df name) from rfl);clear hg hm;cases hx:Fil.get A name with
 |none=>
  rw[hx] at HG HF;have hF:fileOf Ae A name=none:=HF.out;have HP:=Hi (show ∀ W',Bw w W'→OB Ae w A name (.returned (.tuple #[.slice none 0 0,.bool false,.bool false])) W' from fun W' hb=>⟨none,0,by rw[hF,hx];rfl,by rw[hF];exact VN _ _,fun _=>rfl,hb⟩);clear hx HF hF hs;go_enter func67,ntmps67;go_wp2_with fail;refine HG.mono ?_;rintro e w1⟨rfl,Ad⟩;have HB1:=Hi Ad;clear Ad;go_wp2_with fail;exact El (v:=.tuple #[.slice none 0 0,.bool false,.bool false]) (by simp[results,results67,go_sem]) rfl (HP _ HB1)
 |some d=>
  rw[hx] at HG HF;have hF:fileOf Ae A name=Ae.Df name d:=HF.out;have K9:d.length≤1000000:=by rw[hx] at hs;exact hs
  have HR:=Hi (fun(W:World)=>awx name d W K9);have PD:=Hi (show(Fil.get A name).isSome=true from by rw[hx];rfl);clear HF hs hx;cases hr:Ae.Df name d with
  |none=>
   rw[hr] at HR hF;have HP:=Hi (show ∀ W',Bw w W'→OB Ae w A name (.returned (.tuple #[.slice none 0 0,.bool true,.bool false])) W' from fun W' hb=>⟨none,0,by rw[hF,PD.out];rfl,by rw[hF];exact VN _ _,fun _=>rfl,hb⟩);clear hF hr PD;go_enter func67,ntmps67;go_wp2_with fail;refine HG.mono ?_;rintro e w1⟨rfl,Ad⟩;have HB1:=Hi Ad;clear Ad;go_wp2_with fail;refine(HR _).mono ?_;rintro e w2⟨rfl,A8⟩;have Ag:=Hi (HB1.trans (A8.mono HB1.size));clear A8;go_wp2_with fail;exact El (v:=.tuple #[.slice none 0 0,.bool true,.bool false]) (by simp[results,results67,go_sem]) rfl (HP _ Ag)
  |some l=>
   rw[hr] at HR hF;have HP:=Hi (show ∀ (W':World) (q:Option Addr) (cap:Nat),Bo W' w.heap.size (.slice q l.length cap) l→(q=none→cap=0)→Bw w W'→OB Ae w A name (.returned (.tuple #[.slice q l.length cap,.bool true,.bool true])) W' from fun W' q cap h1 h2 hb=>⟨q,cap,by rw[hF,PD.out];rfl,by rw[hF];exact h1,h2,hb⟩);clear hF hr PD;go_enter func67,ntmps67;go_wp2_with fail;refine HG.mono ?_;rintro e w1⟨rfl,Ad⟩;have HB1:=Hi Ad;clear Ad;go_wp2_with fail;refine(HR _).mono ?_;rintro e w2⟨q,cap,rfl,Ah,Gz,A8⟩;have Ag:=Hi (HB1.trans (A8.mono HB1.size));have HW:=Hi (E9 Ah HB1.size);clear A8 Ah;go_wp2_with fail;exact El (v:=.tuple #[.slice q l.length cap,.bool true,.bool true]) (by simp[results,results67,go_sem]) rfl (HP _ _ _ HW Gz Ag)
def getV(K:Kind)(A:M)(key:T):T×Bool×Int:=if(Fil.get A (K.nm key)).isSome=true∧(fileOf K A (K.nm key)).isSome=false then([],false,50) else match Dk K A key with
 |some v=>(v,true,0)
 |none=>([],false,0)
theorem lS(K:Kind)(A:M)(key:T):Dk K A key=Fil.get ((fileOf K A (K.nm key)).getD []) key:=by
 unfold Dk;cases fileOf K A (K.nm key)<;>rfl
theorem ah1{l:M}{k:Nat}(hk:k < l.length)(key:T):Fil.get (l.drop k) key=if l[k].1=key then some l[k].2 else Fil.get (l.drop (k+1)) key:=by
 rw[Qz hk];unfold Fil.get;by_cases h:l[k].1=key
 ·rw[Ab h,List.find?_cons_of_pos (by simpa using h)];rfl
 ·rw[Aa h,List.find?_cons_of_neg (by simpa using h)]
theorem V7{K:Kind}{A:M}{name:T}:((fileOf K A name).getD []).length≤65535∧∀ p∈(fileOf K A name).getD [],p.1.length≤65535∧p.2.length≤65535:=by
 cases h:fileOf K A name with
 |none=>exact⟨by simp,fun p hp=>by simp at hp⟩
 |some l=>
  unfold fileOf at h;cases hg:Fil.get A name with
  |none=>rw[hg] at h;cases h
  |some d=>rw[hg] at h;exact dQ h
theorem asE{K:Kind}{A:M}{key:T}(h1:(Fil.get A (K.nm key)).isSome=true)(h2:(fileOf K A (K.nm key)).isSome=false):getV K A key=([],false,50):=Ab ⟨h1,h2⟩
theorem asF{K:Kind}{A:M}{key:T}(h:¬ ((Fil.get A (K.nm key)).isSome=true∧(fileOf K A (K.nm key)).isSome=false)):getV K A key=match Fil.get ((fileOf K A (K.nm key)).getD []) key with
 |some v=>(v,true,0)
 |none=>([],false,0):=by unfold getV;rw[Aa h,lS]
def mo(w:World)(q:Option Addr)(cap:Nat)(l:M)(key:T)(i:Value)(wr:World):Prop:=∃ k:Nat,k≤l.length∧i=.int .i64 k∧Bw w wr∧AO wr q l∧Fil.get l key=Fil.get (l.drop k) key
theorem TQ{w w':World}{y:Nat}{A:M}(h:Man.ND w y A)(hb:Bw w w'):Man.ND w' y A:=⟨fun W hW k hk=>h.gets W (hb.trans (hW.mono hb.size)) k hk,h.small⟩
theorem kI(key:T):(Ae.nm key).length=17:=MI.len key
theorem ac7{w:World}{p y:Nat}{A:M}(hm:Fb w p y)(hg:Man.ND w y A)(key:T)(hk:key.length≤1000000):
  Calls prog 34 #[.pointer (some ⟨p,0,none⟩),.string (bs key)] w fun e w'=>e=.returned (.tuple #[.string (bs (getV Ae A key).1),.bool (getV Ae A key).2.1,.int .i64 (getV Ae A key).2.2])∧Bw w w':=by
 have HN:=Hi (sF key w hk);have HO:=Hi (fun(W:World) (hW:Bw w W)=>sG (hm.below hW) (TQ hg hW) (Ae.nm key) (by rw[kI];decide));have HV:=Hi (@asF Ae A key);have HB:=Hi (@asE Ae A key);obtain⟨hl,-⟩:=@V7 Ae A (Ae.nm key);unfold OB at HO;clear hm hg;generalize (fileOf Ae A (Ae.nm key)).getD []=l at*;generalize (fileOf Ae A (Ae.nm key)).isSome=good at*;generalize (Fil.get A (Ae.nm key)).isSome=VG at*;generalize getV Ae A key=V at*;generalize Ae.nm key=name at*;by_cases Nh:VG=true∧good=false
 ·obtain⟨rfl,rfl⟩:=Nh;have hV:=HB rfl rfl;clear HB HV;subst hV;go_enter func34,ntmps34;go_wp2_with fail;refine HN.mono ?_;rintro e w1⟨rfl,Ad⟩;have HB1:=Hi Ad;clear Ad;go_wp2_with fail;refine(HO _ HB1).mono ?_;rintro e w2⟨q,cap,rfl,Ah,Gz,A8⟩;have Ag:=Hi (HB1.trans (A8.mono HB1.size));clear A8 Ah;go_wp2_with fail;exact El (v:=.tuple #[.string (bs []),.bool false,.int .i64 50]) (by simp[results,results34,go_sem];rfl) rfl ⟨rfl,Ag⟩
 ·have Wx:=Hi (HV Nh);clear HB HV;have Dv:VG=false∨(VG=true∧good=true):=by
   cases VG<;>cases good<;>simp_all
  clear Nh;rcases Dv with rfl|⟨rfl,rfl⟩
  all_goals
   go_enter func34,ntmps34;go_wp2_with fail;refine HN.mono ?_;rintro e w1⟨rfl,Ad⟩;have HB1:=Hi Ad;clear Ad;go_wp2_with fail;refine(HO _ HB1).mono ?_;rintro e w2⟨q,cap,rfl,Ah,Gz,A8⟩;have Ag:=Hi (HB1.trans (A8.mono HB1.size));have HP:=Hi (AO.CG Ah);clear A8 Ah;go_wp2_with fail
   go_loopw [10,28] (fun _ i wr=>mo w q cap l key i wr) (fun _ i _=>l.length -(intOf i).toNat)
   case atStart=>exact⟨0,AB _,rfl,Ag,HP,rfl⟩
   case round=>
    obtain⟨k,Db,rfl,hb,hp,Nk⟩:=hrel;have Am:=Hi hb;have RH:=Hi hp;have HG:=Hi Nk;clear Ag HP hb Nk;by_cases hlt:k < l.length
    ·obtain⟨a,Cu,ha,-⟩:=hp.index cap k hlt;have c0:=ha.key;have c1:=ha.val;have HD:=Hi (HG.trans (ah1 hlt key));generalize l[k]=x at*;clear ha hp;by_cases heq:x.1=key
     ·have hV:=Wx.out;rw[HD.out,Ab heq] at hV;subst hV;have Ze:(x.1 == key)=true:=beq_iff_eq.2 heq;go_wp2_with fail;exact El (v:=.tuple #[.string (bs x.2),.bool true,.int .i64 0]) (by simp[results,results34,go_sem]) rfl ⟨rfl,Am.alloc Am.size _⟩
     ·have Ze:(x.1 == key)=false:=H9.2 heq;have MP:=Hi (HD.trans (Aa heq));go_wp2_with fail;go_roundw
      case rel=>
       have JQ:=Hi (show ∀ o,mo w q cap l key (.int .i64 ((k:Int)+1)) (wr.alloc o) from fun o=>⟨k+1,by omega,by go_num,Am.alloc Am.size o,RH.below (Aw wr o),MP⟩)
       first
       |exact JQ _
       |(repeat apply Exists.intro
         refine⟨?_,rfl⟩;exact JQ _)
      case measure=>
       show l.length -((k:Int)+1).toNat < l.length -((k:Int)).toNat
       omega
    ·obtain rfl:k=l.length:=(by omega);have hV:=Wx.out;rw[HG.out,List.drop_length] at hV;change V=([],false,0) at hV;subst hV;clear hp;go_wp2_with fail;exact El (v:=.tuple #[.string (bs []),.bool false,.int .i64 0]) (by simp[results,results34,go_sem];rfl) rfl ⟨rfl,Am⟩
theorem akY{w:World}{p y:Nat}{c:Int}{P:World→World→Prop}(hm:Fb w p y)(hf:Calls prog 140 #[.pointer (some ⟨y,0,none⟩)] w fun e w'=>e=.returned (.int .i64 c)∧P w w'):
  Calls prog 64 #[.pointer (some ⟨p,0,none⟩)] w fun e w'=>e=.returned (.int .i64 c)∧P w w':=by
 have c0:=hm.cell;have HF:=Hi hf;clear hf hm;go_enter func64,ntmps64;go_wp2_with fail;refine HF.mono ?_;rintro e w1⟨rfl,Ad⟩;go_wp2_with fail;go_ret;exact⟨rfl,Ad⟩
end Mem
section
open Go.RowKit Go.Maps
open Fil
def IY(dn:Bool)(w:World)(b y:Nat)(bl:Nat→Prop)(n N:Nat)(A A':M):Prop:=match dn with
 |false=>A=A'∧EJ true w b y bl n N A
 |true=>Ti w b y bl n N A A'
def XT(w:World)(b y:Nat)(bl:Nat→Prop)(n N:Nat)(A A':M):Prop:=
 ∃ D fp m x gv F D' F',Bl w b D fp∧CK w y b m x gv F∧¬ fp m∧D.loose.length≤300000000∧D.n=n∧aQ D F' D'∧D'.left= -1∧F'.w.gen≤N∧(F'.m=A∨F'.m=A')∧(∀ k,fp k∨RX y m x gv k→bl k)
section
variable {w w':World}{b y n N:Nat}{bl:Nat→Prop}{A A':M}{dn:Bool}
theorem IY.upd{P:Nat→Prop}(h:IY dn w b y bl n N A A')(hu:A7 P w w')(hs:∀ k,AA w k 9→¬ P k)(hP:∀ k,bl k→¬ P k):IY dn w' b y bl n N A A':=by
 cases dn with
 |false=>exact⟨h.1,EJ.upd h.2 hu hs hP⟩
 |true=>exact Ti.upd h hu hs hP
theorem IY.below(h:IY dn w b y bl n N A A')(hb:Bw w w'):IY dn w' b y bl n N A A':=h.upd (ub hb) (fun _ _ f=>f) (fun _ _ f=>f)
theorem IY.shrink(h:IY dn w b y bl n N A A'):IY dn w b y (fun k=>bl k∧k < w.heap.size) n N A A':=by
 cases dn with
 |false=>exact⟨h.1,EJ.shrink h.2⟩
 |true=>
  obtain⟨D,fp,m,x,gv,F,h1,h2,h3,h4,h5,h6,h7,h8,h9,Ij⟩:=h;exact⟨D,fp,m,x,gv,F,h1,h2,h3,h4,h5,h6,h7,h8,h9,fun k hk=>⟨Ij k hk,hk.elim (h1.lt k) (h2.lt k)⟩⟩
theorem IY.parts(h:IY dn w b y bl n N A A'):∃ D fp m x gv F,Bl w b D fp∧CK w y b m x gv F∧¬ fp m∧F.fault=(if dn then 40 else 0)∧D.loose.length≤100000000∧D.n=n∧Fil.Good A∧F.m=A∧(∀ k,fp k∨RX y m x gv k→bl k)∧
  (∀ keep,∃ F' D',aQ (D.Gd keep) F' D'∧D'.left= -1∧F'.w.gen≤N∧(F'.m=A∨F'.m=A')):=by
 cases dn with
 |false=>
  obtain⟨e,D,fp,m,x,gv,F,h1,h2,h3,h4,h5,h6,h7,h8,h9⟩:=h;subst e;exact⟨D,fp,m,x,gv,F,h1,h2,h3,h4.fault,by rw[h4.disk.loose];simp,h6,by rw[←h8];exact h4.good,h8,h9,fun keep=>⟨F,D.Gd keep,(h4.Gd keep).opens,rfl,h7,.inl h8⟩⟩
 |true=>
  obtain⟨D,fp,m,x,gv,F,h1,h2,h3,h4,h5,h6,h7,h8,h9,Ij⟩:=h;exact⟨D,fp,m,x,gv,F,h1,h2,h3,h4,h5,h6,h7.1,h8,Ij,h9⟩
theorem agu{m x:Nat}{gv:Value}{F:St}(h:CK w y b m x gv F):Calls prog 15 #[.pointer (some ⟨y,0,none⟩)] w fun e w'=>e=.returned (.pointer (some ⟨b,0,none⟩))∧w=w':=by
 obtain⟨c0,_⟩:=h.cells;clear h;go_enter func15,ntmps15;go_wp2_with fail;go_ret;exact⟨rfl,rfl⟩
theorem arM(h:IY dn w b y bl n N A A'):Calls prog 15 #[.pointer (some ⟨y,0,none⟩)] w fun e w'=>e=.returned (.pointer (some ⟨b,0,none⟩))∧w=w':=by
 obtain⟨D,fp,m,x,gv,F,h1,h2,_⟩:=h.parts;exact agu h2
theorem asj(h:XT w b y bl n N A A'):Calls prog 15 #[.pointer (some ⟨y,0,none⟩)] w fun e w'=>e=.returned (.pointer (some ⟨b,0,none⟩))∧w=w':=by
 obtain⟨D,fp,m,x,gv,F,D',F',h1,h2,_⟩:=h;exact agu h2
theorem arN(h:IY dn w b y bl n N A A')(k:Int)(hk:k≤9223372036854775807):
  Calls prog 16 #[.pointer (some ⟨b,0,none⟩),.int .i64 k] w fun e w'=>e=.returned (.int .i64 0)∧IY dn w' b y bl n N A A'∧A7 (Gt w bl) w w':=by
 cases dn with
 |false=>
  obtain⟨e,D,fp,m,x,gv,F,h1,h2,h3,h4,h5,h6,h7,h8,h9⟩:=h;refine(agV h1 k hk).mono ?_;rintro e' w'⟨rfl,p1,p2⟩;exact⟨rfl,⟨e,D.PX k,fp,m,x,gv,F,p1,h2.upd p2 (fun k hk e=>h1.Cv _ e (by decide) (by decide) hk) (RZ h1 h2 h3),h3,h4.PX hk,(fun e=>by cases e),h6,h7,h8,h9⟩,p2.mono (fun k hk=>dI h1 h2 h9 k (.inl hk))⟩
 |true=>
  obtain⟨D,fp,m,x,gv,F,h1,h2,h3,h4,h5,h6,h7,h8,h9,Ij⟩:=h;refine(agV h1 k hk).mono ?_;rintro e' w'⟨rfl,p1,p2⟩;exact⟨rfl,⟨D.PX k,fp,m,x,gv,F,p1,h2.upd p2 (fun k hk e=>h1.Cv _ e (by decide) (by decide) hk) (RZ h1 h2 h3),h3,h4,h5,h6,h7,h8,h9,Ij⟩,p2.mono (fun k hk=>dI h1 h2 Ij k (.inl hk))⟩
theorem arL(h:IY dn w b y bl n N A A')(keep:List UInt8)(hk:keep.length≤1000000000):
  Calls prog 17 #[.pointer (some ⟨b,0,none⟩),.string (bs keep)] w fun e w'=>e=.returned (.int .i64 0)∧∃ Bu,XT w' b y Bu n N A A'∧A7 (Gt w bl) w w'∧∀ k,Bu k→bl k∨w.heap.size≤k:=by
 obtain⟨D,fp,m,x,gv,F,h1,h2,h3,h4,h5,h6,h7,h8,h9,Ij⟩:=h.parts;have EC:=h2.map.lt;refine(aqP h1 keep (by omega) hk).mono ?_;rintro e w'⟨rfl,fp',p1,p2,p3⟩;obtain⟨F',D',q1,q2,q3,q4⟩:=Ij keep;refine⟨rfl,fun k=>bl k∨w.heap.size≤k,⟨D.Gd keep,fp',m,x,gv,F,D',F',p1,h2.upd p2 (fun k hk e=>h1.Cv _ e (by decide) (by decide) hk) (RZ h1 h2 h3),fun e=>(p3 m e).elim h3 (fun f=>by omega),by show(0:Nat)≤_;omega,h6,q1,q2,q3,q4,?_⟩,p2.mono (fun k hk=>dI h1 h2 h9 k (.inl hk)),fun k hk=>hk⟩;rintro k (hk|hk)
 ·exact(p3 k hk).imp (fun e=>h9 k (.inl e)) id
 ·exact .inl (h9 k (.inr hk))
end
end
end Go.Proofs.YtmbbhdebddbhoaaGreat
