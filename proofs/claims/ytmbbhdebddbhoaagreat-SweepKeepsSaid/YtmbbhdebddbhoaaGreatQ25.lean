/- PrsKeysW MemW MemR MemG FilDown -/
import Derived.Test.YtmbbhdebddbhoaaGreatQ24
set_option maxHeartbeats 4000000
set_option maxRecDepth 100000
set_option linter.all false
namespace Go.Proofs.YtmbbhdebddbhoaaGreat
open Tryz
namespace Prs
open Go.RowKit Go.Maps Go.Shelf
open Fil Man Wal Sha
attribute [local go_sem] Le
attribute [local go_sem ↓] bf
def Vm(w:World)(ks:List T)(W:World):Prop:=∃ v,G9 w.heap.size w w.heap.size W ks v
theorem al9{w W W':World}{Bx:Nat}{ks:List T}{cs:Array Value}(h:Vm w ks W)(hb:W.heap[Bx]?=some (.cells cs 22))(hB:w.heap.size≤Bx)(hu:A7 (fun k=>k=Bx) W W'):Vm w ks W':=by
 obtain⟨v,h⟩:=h;obtain⟨n1,n2⟩:=h.kind hb (by decide) (by decide);exact⟨v,h.upd hu (fun k e=>by rw[e];exact hB) n1 (fun k hk e=>n2 (by rw[hk,e]))⟩
theorem aaI{w:World}{B:Nat}(hB:w.heap.size≤B)(ks:List T):JS B (Vm w ks):=
 ⟨fun A l o o' hl ⟨v,h⟩ ho hc=>⟨v,h.put ho hc (Ah hB hl)⟩,fun A o ⟨v,h⟩=>⟨v,h.below (Am A o)⟩⟩
theorem ala{W1:World}{Bx g B:Nat}{Z:M}{J:List T→World→Prop}(hJ:∀ ks,JS B (J ks))(xs:List (Value×T)):JS B (Xx W1 Bx g Z J xs):=
 ⟨fun A l o o' hl ⟨R,q,c,h1,h2,h3,h4⟩ ho hc=>⟨R,q,c,h1.put ho hc,h2,h3,(hJ _).1 A l o o' hl h4 ho hc⟩,fun A o ⟨R,q,c,h1,h2,h3,h4⟩=>⟨R,q,c,h1.below (Am A o),h2,h3,(hJ _).2 A o h4⟩⟩
theorem lY{A:World}{p:Addr}{v:Value}{l:Nat}{o o':Obj}(h:A.cell? p=some v)(ho:A.heap[l]?=some o)(hc:o.isCells=false):(A.putObj l o').cell? p=some v:=by
 refine(World.cell?_of_block (World.putObj_heap_other (fun e=>?_))).trans h;unfold World.cell? at h;rw[e,ho] at h;cases o<;>simp[Obj.isCells] at hc h
theorem alb{W1:World}{Bx g B:Nat}{Z:M}{J:List T→World→Prop}(hJ:∀ ks,JS B (J ks))(xs:List (Value×T))(x:Value×T):JS B (lV W1 Bx g Z J xs x):=
 ⟨fun A l o o' hl ⟨R,q,c,h1,h2,h3,h4,p,n,c',h5,h6,h7⟩ ho hc=>⟨R,q,c,h1.put ho hc,h2,h3,(hJ _).1 A l o o' hl h4 ho hc,p,n,c',h5,lY h6 ho hc,h7⟩,
  fun A o ⟨R,q,c,h1,h2,h3,h4,p,n,c',h5,h6,h7⟩=>⟨R,q,c,h1.below (Am A o),h2,h3,(hJ _).2 A o h4,p,n,c',h5,((Am A o).cell (Bz h6)).trans h6,h7⟩⟩
theorem Vn{w:World}{q:Option Addr}{cap:Nat}{l:M}(h:Av w q l)(hq:q=none→cap=0)(hl:l.length≤1000000):
  Calls prog 61 #[.slice q l.length cap] w fun e w'=>∃ v,e=.returned v∧Man.AQ w' w.heap.size v (CF l)∧Bw w w':=by
 refine(Cu (n:=3)).1 ?_;have Mh:prog.follows .mixedOrders=true:=by kernel_rfl
 have HS:=Hi (fun(W:World) (hW:Bw w W)=>aax _ W q cap l (Ab _) (h.below hW) hq hl);have JJ:=Hi (V8 l);have HK:=Hi (akj l);clear h hq;refine callsIn_of_wp_marks func61 rfl trivial ?_ rfl;simp only[ntmps61,Ih,AX,FN,Nat.reduceAdd,Nat.reduceSub,JB,JA,Jz,JC,DI,FL]
 gi_wp2
 have hb0:=Am w (.cells #[.slice none 0 0] 27);have ht0:G9 w.heap.size w w.heap.size (w.alloc (.cells #[.slice none 0 0] 27)) [] (.slice none 0 0):=⟨hb0,Ab _,hb0.size,Aq w _,by unfold strCells;exact DJ _ _ _ _⟩;have HT0:=Hi ht0;refine⟨trivial,(Cu.2 (HS _ hb0)).mono ?_⟩;rintro e w1⟨v1,rfl,h1,hb1⟩;obtain⟨q1,c1,rfl,hq1,hc1⟩:=Dl h1;have HT1:=Hi (HT0.below hb1);have HR1:=Hi h1;have QK:=Hi hc1;clear hb0 ht0 h1 hb1 hq1 hc1 HT0 HS
 gi_wp2
 refine⟨trivial,(Cu.2 (al2 q1 _ c1 _)).mono ?_⟩;rintro e w2⟨rfl,hw2⟩;subst hw2
 gi_wp2
 have EC:=Hi (Aq w1 (.cells #[.slice q1 (Dp l).length c1] 22));have Tp:=Hi (HT1.below (Am w1 (.cells #[.slice q1 (Dp l).length c1] 22)));have Rh:=Hi (Bp HR1 (Am w1 (.cells #[.slice q1 (Dp l).length c1] 22)));have Hw:=Hi HT1.size;obtain⟨Bx,hBx⟩:=ex (w1.heap.size);rw[hBx] at EC Hw ⊢;obtain⟨U,hU⟩:=ex (w1.alloc (.cells #[.slice q1 (Dp l).length c1] 22));rw[hU] at EC Tp Rh ⊢;obtain⟨g,hg⟩:∃ g,∀ p,q1=some p→p.block=g:=by
  cases q1 with
  |none=>exact⟨0,fun p e=>by cases e⟩
  |some p=>exact⟨p.block,fun p' e=>by cases e;rfl⟩
 have LV:=Hi (show Hl U Bx g (Dp l) q1 c1 U from⟨EC,Av.BU Rh,fun p e _=>hg p e,fun hne=>by
  rcases Rh.2 with⟨e1,e2⟩|⟨g',cap',cur,e1,_,hgg,_⟩
  ·exact absurd (IL.1 e2) hne
  ·injection e1 with e2
   have:=hg _ e2;subst this;exact⟨_,_,hgg,hgg⟩,QK,by rw[JJ.out];exact hl⟩)
 clear hBx hU hg HT1 HR1 QK Rh;refine zk (s:=3) (by omega) (gf:=188) (lb:=#[.pointer (some ⟨Bx,0,none⟩)]) rfl (enters_of func188 (by kernel_rfl) rfl) (e:=fun x:Value×T=>x.1)
  (Ia:=Xx U Bx g (Dp l) (Vm w)) (Iy:=lV U Bx g (Dp l) (Vm w)) (fun xs=>ala (fun ks=>aaI Tp.size ks) xs) (fun xs x=>alb (fun ks=>aaI Tp.size ks) xs x)
  (al4 2 (by omega) U Bx g (Dp l) (J:=Vm w) (fun ks W W' cs h hb hu=>al9 h hb Hw hu) U) ⟨Dp l,q1,c1,LV,rfl,rfl,_,Tp⟩
  ?assign ?body ?done
 case assign=>
  intro l x W K hK;simp only[np] at hK ⊢
  gi_wp2
  exact hK
 case body=>
  intro l2 pre x W hy;obtain⟨R,q2,c2,hG,Ti,hZ,⟨v,hT⟩,p,n,c',hx,atE,hn⟩:=hy;obtain⟨xv,xk⟩:=x;obtain⟨qv,cv,rfl⟩:=AA hT.row;simp only at hx atE hZ;subst hx;have hlen:(pre.map (·.2)).length≤1000000:=by
   have h1:=congrArg List.length hZ;rw[HK.out,Aj] at h1;have h2:=Ox (l.map (·.1));rw[BQ] at h2;unfold CF at h1;omega
  obtain⟨g7,bn,w7,LX,JZ,Ga⟩:=al8 (W:=W.drew) xk hT.row.drew (by omega) hT.size;have hbW:Bw W (W.drew.alloc (.cells #[.string (bs xk)] 9)):=((Ad _ W).drew).alloc (Ab _) _;have Xz:=Hi (hT.add hbW Ga (k:=[xk]) JZ);have Tq:=Hi (hT.keeps hbW Ga (.slice (some ⟨g7,0,none⟩) ((pre.map (·.2)).length+1) bn))
  have HGN:=Hi (show Hl U Bx g R q2 c2 (w7.setCell ⟨w.heap.size,0,none⟩ (.slice (some ⟨g7,0,none⟩) ((pre.map (·.2)).length+1) bn)) from⟨hT.other hbW Ga _ hG.box (by decide) (by decide),hG.at_,hG.blk,fun hne=>by
   obtain⟨cs,fr,k1,k2⟩:=hG.src hne;exact⟨cs,fr,k1,hT.other hbW Ga _ k2 (by decide) (by decide)⟩,hG.cap,hG.small⟩)
  have LY:=(Ga.block w.heap.size (by rw[Ai];exact Nat.lt_succ_of_lt (Ae hT.box)) (fun e=>(hT.ne e.symm).1 rfl)).trans ((hbW.block _ (Ae hT.box)).trans hT.box);have Vo:w7.cell? ⟨w.heap.size,0,none⟩=some (.slice qv (pre.map (·.2)).length cv):=cr LY;have Vp:=Cb w7 w.heap.size 0 _ _ LY;have cb:W.cell? ⟨w.heap.size,0,none⟩=some (.slice qv (pre.map (·.2)).length cv):=cr hT.box;have hix:∀ V,(Instr.indexAt 22 (.slice (some p) (n+1) c') (.int .i64 0)).run prog V=.ok (.pointer (some p)) V:=fun V=>by
   have:=Fw prog _ 75 underlying22 2 (by kernel_rfl) p (n+1) c' 0 (by omega) V;rw[Nat.zero_mul,add_zero'] at this;exact this
  have HZ:=Hi hZ;have O7:=Hi Ti;have aaK:=Ae hT.box;have Vq:=Bz atE;have arq:(Tn #[27,27] 27 #[.slice qv (pre.map (·.2)).length cv,.slice (some ⟨W.heap.size,0,none⟩) 1 1]).run prog (W.alloc (.cells #[.string (bs xk)] 9)).drew=.ok (.slice (some ⟨g7,0,none⟩) ((pre.map (·.2)).length+1) bn) w7:=LX;generalize (pre.map (·.2)).length=m at*;clear hG Ti hZ hT LX JZ Ga hbW LY hlen;simp only[np]
  gi_wp2
  gi_region_with_o (fail)
  all_goals
   refine⟨Tq,R,q2,c2,HGN,by rw[Aj];exact O7.out,by rw[HZ.out,C8];simp,.slice (some ⟨g7,0,none⟩) (m+1) bn,?_⟩;rw[C8];exact Xz.out
 case done=>
  intro D xs W hD hS hI hK2;obtain⟨R,q2,c2,hG,Ti,hZ,⟨v,hT⟩⟩:=hI;rw[hS,HK.out] at hT;obtain⟨qv,cv,rfl⟩:=AA hT.row;have HT:=Hi hT;have OI:=Hi hK2;have HD:=Hi (show w.heap.size≤D from Ah Tp.size hD);have cb:W.cell? ⟨w.heap.size,0,none⟩=some (.slice qv (CF l).length cv):=cr hT.box;have hfz:=Cb W w.heap.size 0 _ _ hT.box;have hu:=(A7.refl (fun k=>k=w.heap.size) W).setCell (p:=⟨w.heap.size,0,none⟩) (.inl rfl) (.slice qv (CF l).length cv);have Tm:=Bh W w.heap.size 0 _ _ (.slice qv (CF l).length cv) hT.box
  have DW:=Hi (show(W.setCell ⟨w.heap.size,0,none⟩ (.slice qv (CF l).length cv)).heap[D]?=some (.deferred (some [])) from(hu.block D (BZ.1 hK2).1 (fun e=>by
   rw[e,hT.box] at hK2;cases hK2)).trans hK2)
  have PL:G9 w.heap.size w w.heap.size (W.setCell ⟨w.heap.size,0,none⟩ (.slice qv (CF l).length cv)) (CF l) (.slice qv (CF l).length cv):=
   ⟨hT.Ao.setCell (p:=⟨w.heap.size,0,none⟩) (Ab _) _,hT.low,Ah hT.size hu.size,Tm,AL hT.row hu (fun k hk=>(hT.ne hk).1)⟩
  have lZ:=Hi (PL.put (o':=.deferred none) DW rfl HD);have Tt:=Hi (show((W.setCell ⟨w.heap.size,0,none⟩ (.slice qv (CF l).length cv)).putObj D (.deferred none)).cell? ⟨w.heap.size,0,none⟩=some (.slice qv (CF l).length cv) from cr lZ.box);clear hG Ti hZ hT hS hK2 hD hu Tm PL
  gi_wp2
  refine⟨by simp,.inl ⟨_,_,rfl,run_takeDeferred DW,?_⟩⟩;exact⟨_,(by simp[results,results61,go_sem,Tt.out]),_,rfl,lZ.row,lZ.Ao⟩
end Prs
namespace Mem
open Go.RowKit Go.Maps
open Fil Man Prs Kp BH Hex Sha
theorem bq(k:T)(w:World)(hk:k.length≤1000000):Calls prog 66 #[.string (bs k)] w fun e w'=>e=.returned (.string (bs (A9.nm k)))∧Bw w w':=by
 have hm:({ data:=#[109] }:ByteArray)=bs [109]:=rfl;have hcut:∀ W,(Instr.slice 9 (.string (bs (De k))) none (some (.int .i64 8)) none).run prog W=.ok (.string (bs ((De k).take 8))) W:=fun W=>Ji prog W 9 underlying9 (De k) 8 (by rw[NI];decide)
 have HE:=Hi (show A9.nm k=[109]++Dq ((De k).take 8) from rfl);have hl:(Dq ((De k).take 8)).length=16:=by rw[SY,Aw,NI];rfl
 have HS:=Hi (zH k hk w);have HH:=Hi (fun(W:World)=>aae ((De k).take 8) W (by rw[Aw,NI];decide));rw[HE.out];generalize De k=s at*;generalize Dq (s.take 8)=h at*;go_enter func66,ntmps66;go_wp2_with fail;refine HS.mono ?_;rintro e w1⟨rfl,hb1⟩;have HB1:=Hi hb1;clear hb1;go_wp2_with fail;refine(HH _).mono ?_;rintro e w2⟨rfl,hb2⟩;have HB2:=Hi (HB1.trans (hb2.mono HB1.size));clear hb2;go_wp2_with fail;go_ret;exact⟨rfl,HB2⟩
theorem bu{c:UInt8}{name:T}(h:¬ (name.length=17∧name.head?=some c)):J2 c name=false:=by
 unfold J2;by_cases h1:name.length=17
 ·by_cases h2:name.head?=some c
  ·exact absurd ⟨h1,h2⟩ h
  ·have:(name.head? == some c)=false:=(by simpa using h2);rw[this];simp
 ·have:(name.length == 17)=false:=by simpa using h1
  rw[this];simp
theorem aaL{c:UInt8}{name:T}(h1:name.length=17)(h2:name.head?=some c):J2 c name=(unhexT (name.drop 1)).isSome:=by
 unfold J2;rw[h1,h2];simp
theorem aaM(s:T):decide ((KU s).2=0)=(unhexT s).isSome:=by
 unfold KU;cases unhexT s<;>rfl
theorem alc(name:T)(w:World)(hn:name.length≤1000000):Calls prog 118 #[.string (bs name)] w fun e w'=>e=.returned (.bool (A9.ours name))∧Bw w w':=by
 show Calls _ _ _ _ fun e w'=>e=.returned (.bool (J2 109 name))∧_
 by_cases h1:name.length=17
 ·have ma:(name.length:Int)=17:=by omega
  have hlt:0 < name.length:=by omega
  have Xr:(0:Int) < (name.length:Int):=by omega
  have hd:name.head?=some name[0]:=by
   cases name with
   |nil=>simp at h1
   |cons a l=>rfl
  by_cases h2:name[0]=109
  ·have hR:=Hi (aaL (c:=109) h1 (by rw[hd,h2]));have hcut:∀ W,(Instr.slice 9 (.string (bs name)) (some (.int .i64 1)) none none).run prog W=.ok (.string (bs (name.drop 1))) W:=fun W=>Ik prog W 9 underlying9 name 1 (by omega)
   have WK:(name[0].toNat:Int)=109:=(by rw[h2];rfl);have HU:=Hi (aai (name.drop 1) w (by rw[BA];omega));have HV:=Hi (aaM (name.drop 1));rw[hR.out,←HV.out];generalize KU (name.drop 1)=V at*;clear hd h2 HV hR;generalize name.drop 1=dn at*;go_enter func118,ntmps118;go_wp2_with fail;refine HU.mono ?_;rintro e w1⟨rfl,hb⟩;have HB:=Hi hb;clear hb;go_wp2_with fail;go_ret;exact⟨by simp;rfl,HB⟩
  ·have hR:Hid (J2 109 name=false):=Hi (bu (fun h=>h2 (by have:=h.2;rw[hd] at this;injection this)));have WK:¬ (name[0].toNat:Int)=109:=fun e=>h2 (by apply UInt8.toNat_inj.1;have h9:(109:UInt8).toNat=109:=rfl;rw[h9];omega)
   rw[hR.out];clear hd h2;go_enter func118,ntmps118;go_wp2_with fail;go_ret;exact⟨rfl,Ad _ _⟩
 ·have ma:¬ (name.length:Int)=17:=by omega
  have hR:Hid (J2 109 name=false):=Hi (bu (fun h=>h1 h.1));rw[hR.out];go_enter func118,ntmps118;go_wp2_with fail;go_ret;exact⟨rfl,Ad _ _⟩
end Mem
namespace Mem
open Go.RowKit Go.Maps
open Wal Fil Man Prs Kp BH Hex Sha
theorem Vr:∀ {L:List T} {a:T},textsE L=some a→∀ t∈L,t.length≤65535
 |[],_,_,t,h=>by simp at h
 |x :: L,a,h,t,ht=>by
  simp only[textsE] at h;cases h1:CO x with
  |none=>rw[h1] at h;cases h
  |some u=>
   cases h2:textsE L with
   |none=>rw[h1,h2] at h;cases h
   |some c=>
    rcases AZ.1 ht with rfl|ht
    ·unfold CO at h1;split at h1
     ·assumption
     ·cases h1
    ·exact Vr h2 t ht
theorem mf{s:T}{l:M}(h:F6 s=some l):l.length≤65535∧∀ p∈l,p.1.length≤65535∧p.2.length≤65535:=by
 have h2:=(zV h).2;unfold DX at h2;split at h2
 ·rename_i hn
  cases h1:textsE (flat l) with
  |none=>rw[h1] at h2;cases h2
  |some a=>
   refine⟨hn,fun p hp=>⟨Vr h1 _ (JE.2 ⟨p,hp,by simp⟩),Vr h1 _ (JE.2 ⟨p,hp,by simp⟩)⟩⟩
 ·cases h2
theorem Vs{K:Kind}{name data:T}{l:M}(h:K.Cn name data=some l):l.length≤65535∧∀ p∈l,p.1.length≤65535∧p.2.length≤65535:=by
 obtain⟨_,h2,_,s,h4,_⟩:=KR h;exact mf (aH h4 (BN.LM h2))
def Il(w:World)(r:Option M)(e:Ending)(w':World):Prop:=match r with
 |none=>e=.returned (.tuple #[.slice none 0 0,.bool false])∧Bw w w'
 |some l=>∃ q cap,e=.returned (.tuple #[.slice q l.length cap,.bool true])∧AP w' w.heap.size (.slice q l.length cap) l∧(q=none→cap=0)∧Bw w w'
theorem Hy{w w':World}{r:Option M}{e:Ending}(h:r=none)(he:e=.returned (.tuple #[.slice none 0 0,.bool false]))(hb:Bw w w'):Il w r e w':=by
 subst h;exact⟨he,hb⟩
theorem Wu{w w':World}{r:Option M}{e:Ending}{l:M}{q:Option Addr}{cap:Nat}(h:r=some l)(he:e=.returned (.tuple #[.slice q l.length cap,.bool true]))(hr:AP w' w.heap.size (.slice q l.length cap) l)(hq:q=none→cap=0)(hb:Bw w w'):Il w r e w':=by
 subst h;exact⟨q,cap,he,hr,hq,hb⟩
theorem ald(name data:T):A9.Cn name data=if(Crc.Dj data).2=0 then(F6 (Crc.Dj data).1).bind fun l=>if l≠[]∧(CF l).length=l.length∧∀ p∈l,A9.nm p.1=name then some l else none else none:=by
 unfold Kind.Cn Va;have:∀ p:T×T,(A9.ok p=true)=True:=fun p=>by simp[A9]
 simp only[this,and_true]
theorem aaN{P:T×T→Prop}{l:M}{k:Nat}(hk:k < l.length)(h:∀ p∈l.take k,P p)(hp:P l[k]):∀ p∈l.take (k+1),P p:=fun p h'=>by
 rw[BS hk] at h';rcases Ee.1 h' with h'|h'
 ·exact h p h'
 ·rw[DT.1 h'];exact hp
def aaO(w:World)(q:Option Addr)(cap:Nat)(l:M)(name:T)(i:Value)(wr:World):Prop:=∃ k:Nat,k≤l.length∧i=.int .i64 k∧Bw w wr∧AP wr w.heap.size (.slice q l.length cap) l∧∀ p∈l.take k,A9.nm p.1=name
theorem ale(name data:T)(w:World)(hd:data.length≤1000000):Calls prog 144 #[.string (bs name),.string (bs data)] w fun e w'=>Il w (A9.Cn name data) e w':=by
 have HIS:=Hi (ald name data);have HO:=Hi (sJ data w (by omega));have hsl:(Crc.Dj data).1.length≤1000000:=by
  by_cases h:(Crc.Dj data).2=0
  ·have:=congrArg List.length (Crc.fO h);rw[Crc.Mc] at this;omega
  ·unfold Crc.Dj at h ⊢;split
   ·simp
   ·split
    ·rename_i h1 h2
     rw[Aa h1,Ac h2] at h;exact absurd rfl h
    ·simp
 generalize (Crc.Dj data).1=s at*;generalize (Crc.Dj data).2=c at*;have HG:=Hi (fun(W:World)=>aaH s W (by omega));by_cases hc:c=0
 ·subst hc;cases hg:F6 s with
  |none=>
   have hR:Hid (A9.Cn name data=none):=Hi (by rw[HIS.out,Ac rfl,hg];rfl);have HG2:=Hi (show ∀ W,Calls prog 194 #[.string (bs s)] W fun e w'=>e=.returned (.tuple #[.slice none 0 0,.int .i64 7])∧Bw W w' from fun W=>by have:=HG W;unfold PO at this;rw[hg] at this;exact this);clear HG HIS hg;go_enter func144,ntmps144;go_wp2_with fail;refine HO.mono ?_;rintro e w1⟨rfl,hb1⟩;have HB1:=Hi hb1;clear hb1;go_wp2_with fail;refine(HG2 _).mono ?_;rintro e w2⟨rfl,hb2⟩;have HB2:=Hi (HB1.trans (hb2.mono HB1.size));clear hb2;go_wp2_with fail;go_ret2;exact Hy hR.out rfl HB2.out
  |some l=>
   have HG2:=Hi (show ∀ W,Calls prog 194 #[.string (bs s)] W fun e w'=>∃ v,e=.returned (.tuple #[v,.int .i64 0])∧AP w' W.heap.size v l∧Bw W w' from fun W=>by have:=HG W;unfold PO at this;rw[hg] at this;exact this);have Tv:=Hi (show A9.Cn name data=if l≠[]∧(CF l).length=l.length∧∀ p∈l,A9.nm p.1=name then some l else none from by rw[HIS.out,Ac rfl,hg];rfl);obtain⟨hl,hsh⟩:=mf hg;have MK:=Hi hsh;clear HG HIS hg hsh;by_cases hz:l=[]
   ·have hR:Hid (A9.Cn name data=none):=Hi (by rw[Tv.out,Aa (fun h=>h.1 hz)]);have hz0:(l.length:Int)=0:=(by rw[hz];rfl);clear hz;go_enter func144,ntmps144;go_wp2_with fail;refine HO.mono ?_;rintro e w1⟨rfl,hb1⟩;have HB1:=Hi hb1;clear hb1;go_wp2_with fail;refine(HG2 _).mono ?_;rintro e w2⟨v,rfl,ast,hb2⟩;obtain⟨q,cap,rfl,hqc,hcl⟩:=Dl ast;have HB2:=Hi (HB1.trans (hb2.mono HB1.size));clear hb2 ast;go_wp2_with fail;go_ret2;exact Hy hR.out rfl HB2.out
   ·have hz0:¬ (l.length:Int)=0:=fun e=>hz (IL.1 (by omega))
    have hzb:((l.length:Int) == 0)=false:=Fq.2 hz0;by_cases hk:(CF l).length=l.length
    ·have XA:=Hi (show A9.Cn name data=if ∀ p∈l,A9.nm p.1=name then some l else none from by
      rw[Tv.out];by_cases h:∀ p∈l,A9.nm p.1=name
      ·rw[Ac ⟨hz,hk,h⟩,Ac h]
      ·rw[Aa (fun x=>h x.2.2),Aa h])
     have Vk:((CF l).length:Int)=(l.length:Int):=(by omega);go_enter func144,ntmps144;go_wp2_with fail;refine HO.mono ?_;rintro e w1⟨rfl,hb1⟩;have HB1:=Hi hb1;clear hb1;go_wp2_with fail;refine(HG2 _).mono ?_;rintro e w2⟨v,rfl,ast,hb2⟩;obtain⟨q,cap,rfl,hqc,hcl⟩:=Dl ast;have HB2:=Hi (HB1.trans (hb2.mono HB1.size));have Ce:=Hi (Da ast HB1.size);have Gy:=Hi (Vn (w:=w2) (Av.BU ast) hqc (by omega));clear hb2 ast;go_wp2_with fail;refine Gy.mono ?_;rintro e w3⟨kv,rfl,hkr,hb3⟩;obtain⟨kq,kc,rfl⟩:=AA hkr;have Hm:=Hi (Bp Ce hb3);have HB3:=Hi (HB2.trans (hb3.mono HB2.size));clear hb3 hkr;go_wp2_with fail
     go_loopw [10,40] (fun _ i wr=>aaO w q cap l name i wr) (fun _ i _=>l.length -(intOf i).toNat)
     case atStart=>exact⟨0,Ar _,rfl,HB3,Hm,fun p h=>by simp at h⟩
     case round=>
      obtain⟨k,hkl,rfl,hb,hr,asD⟩:=hrel;have HB:=Hi hb;have HR:=Hi hr;have HA:=Hi asD;clear asD HB3 Hm hb;by_cases hlt:k < l.length
      ·obtain⟨a,hix,ha,-⟩:=(Av.BU hr).index cap k hlt;have c0:=ha.key;have c1:=ha.val;have hsk:=(MK _ (BF hlt)).1;have HT:=Hi (aaN (P:=fun p=>A9.nm p.1=name) hlt HA)
       have HF:=Hi (show A9.nm l[k].1≠name→A9.Cn name data=none from fun hne=>by
        rw[XA.out,Aa (fun h=>hne (h _ (BF hlt)))])
       generalize l[k]=x at*;have HN:=Hi (fun(W:World)=>bq x.1 W (by omega));clear ha hr;go_wp2_with fail;refine(HN _).mono ?_;rintro e w4⟨rfl,hb4⟩;have HR4:=Hi (Bp (HR.alloc _) hb4);have Ay:=Hi ((HB.alloc HB.size _).trans (hb4.mono (by have:=HB.size;rw[Ai];omega)));clear hb4;have HT2:=Hi (show A9.nm x.1=name→∀ p∈l.take (k+1),A9.nm p.1=name from HT.out);clear HT;generalize A9.nm x.1=nx at*;by_cases heq:nx=name
       ·go_wp2_with fail;go_roundw
        case rel=>
         have GX:=Hi (show aaO w q cap l name (.int .i64 ((k:Int)+1)) w4 from⟨k+1,by omega,by go_num,Ay,HR4,HT2 heq⟩);exact GX.out
        case measure=>
         show l.length -((k:Int)+1).toNat < l.length -((k:Int)).toNat
         omega
       ·have hR:=Hi (HF heq);have Tw:(nx == name)=false:=Fq.2 heq;clear HF HT2;go_wp2_with fail;go_ret2;exact Hy hR.out rfl Ay.out
      ·obtain rfl:k=l.length:=by omega
       have hR:Hid (A9.Cn name data=some l):=Hi (by
        rw[XA.out,Ac];have:=HA.out;rwa[Ck] at this)
       clear hr;go_wp2_with fail;go_ret2;exact Wu hR.out rfl HR hqc HB.out
    ·have hR:Hid (A9.Cn name data=none):=Hi (by rw[Tv.out,Aa (fun h=>hk h.2.1)]);have Vk:¬ ((CF l).length:Int)=(l.length:Int):=(by omega);have hkb:(((CF l).length:Int) != (l.length:Int))=true:=bne_iff_ne.2 Vk;go_enter func144,ntmps144;go_wp2_with fail;refine HO.mono ?_;rintro e w1⟨rfl,hb1⟩;have HB1:=Hi hb1;clear hb1;go_wp2_with fail;refine(HG2 _).mono ?_;rintro e w2⟨v,rfl,ast,hb2⟩;obtain⟨q,cap,rfl,hqc,hcl⟩:=Dl ast;have HB2:=Hi (HB1.trans (hb2.mono HB1.size));have Gy:=Hi (Vn (w:=w2) (Av.BU ast) hqc (by omega));clear hb2 ast;go_wp2_with fail;refine Gy.mono ?_;rintro e w3⟨kv,rfl,hkr,hb3⟩;obtain⟨kq,kc,rfl⟩:=AA hkr;have HB3:=Hi (HB2.trans (hb3.mono HB2.size));clear hb3 hkr;go_wp2_with fail;go_ret2;exact Hy hR.out rfl HB3.out
 ·have hR:Hid (A9.Cn name data=none):=Hi (by rw[HIS.out,Aa hc]);clear HG HIS;go_enter func144,ntmps144;go_wp2_with fail;refine HO.mono ?_;rintro e w1⟨rfl,hb1⟩;have HB1:=Hi hb1;clear hb1;go_wp2_with fail;go_ret2;exact Hy hR.out rfl HB1.out
def DR(w:World)(p y:Nat):Prop:=w.heap[p]?=some (.cells #[.pointer (some ⟨y,0,none⟩)] 134)
theorem DR.cell{w:World}{p y:Nat}(h:DR w p y):w.cell? ⟨p,0,none⟩=some (.pointer (some ⟨y,0,none⟩)):=by
 rw[AY _ _ _ _ _ _ h];rfl
theorem DR.lt{w:World}{p y:Nat}(h:DR w p y):p < w.heap.size:=Ae h
theorem DR.below{w w':World}{p y:Nat}(h:DR w p y)(hb:Bw w w'):DR w' p y:=(hb.block p (Ae h)).trans h
theorem DR.upd{F:Nat→Prop}{w w':World}{p y:Nat}(h:DR w p y)(hu:A7 F w w')(hF:¬ F p):DR w' p y:=(hu.block p (Ae h) hF).trans h
theorem alf(y:Nat)(w:World):Calls prog 19 #[.pointer (some ⟨y,0,none⟩)] w fun e w'=>∃ p,e=.returned (.tuple #[.pointer (some ⟨p,0,none⟩),.int .i64 0])∧DR w' p y∧w.heap.size≤p∧Bw w w':=by
 go_enter func19,ntmps19;go_wp2_with fail;go_ret2;exact⟨_,rfl,Aq w _,Ab _,Am w _⟩
def KW(K:Kind)(w:World)(A:M)(name:T)(e:Ending)(w':World):Prop:=∃ q cap,e=.returned (.tuple #[.slice q ((fileOf K A name).getD []).length cap,.bool (Fil.get A name).isSome,.bool (fileOf K A name).isSome])∧AP w' w.heap.size (.slice q ((fileOf K A name).getD []).length cap) ((fileOf K A name).getD [])∧(q=none→cap=0)∧Bw w w'
theorem PQ(w:World)(base:Nat):AP w base (.slice none 0 0) []:=by unfold AP;rw[LQ];exact DJ _ _ _ _
theorem bz{w:World}{p y:Nat}{A:M}(hm:DR w p y)(hg:Man.JR w y A)(name:T)(hn:name.length≤1000):Calls prog 67 #[.pointer (some ⟨p,0,none⟩),.string (bs name)] w fun e w'=>KW A9 w A name e w':=by
 have c:=hm.cell;have HG:=Hi (hg.gets w (Ad _ _) name hn);have hs:=hg.small name;have HF:=Hi (show fileOf A9 A name=(Fil.get A name).bind (A9.Cn name) from rfl);clear hg hm;cases hx:Fil.get A name with
 |none=>
  rw[hx] at HG HF;have hF:fileOf A9 A name=none:=HF.out;have HP:=Hi (show ∀ W',Bw w W'→KW A9 w A name (.returned (.tuple #[.slice none 0 0,.bool false,.bool false])) W' from fun W' hb=>⟨none,0,by rw[hF,hx];rfl,by rw[hF];exact PQ _ _,fun _=>rfl,hb⟩);clear hx HF hF hs;go_enter func67,ntmps67;go_wp2_with fail;refine HG.mono ?_;rintro e w1⟨rfl,hb1⟩;have HB1:=Hi hb1;clear hb1;go_wp2_with fail;exact Dt (v:=.tuple #[.slice none 0 0,.bool false,.bool false]) (by simp[results,results67,go_sem]) rfl (HP _ HB1)
 |some d=>
  rw[hx] at HG HF;have hF:fileOf A9 A name=A9.Cn name d:=HF.out;have hdl:d.length≤1000000:=by rw[hx] at hs;exact hs
  have HR:=Hi (fun(W:World)=>ale name d W hdl);have LV:=Hi (show(Fil.get A name).isSome=true from by rw[hx];rfl);clear HF hs hx;cases hr:A9.Cn name d with
  |none=>
   rw[hr] at HR hF;have HP:=Hi (show ∀ W',Bw w W'→KW A9 w A name (.returned (.tuple #[.slice none 0 0,.bool true,.bool false])) W' from fun W' hb=>⟨none,0,by rw[hF,LV.out];rfl,by rw[hF];exact PQ _ _,fun _=>rfl,hb⟩);clear hF hr LV;go_enter func67,ntmps67;go_wp2_with fail;refine HG.mono ?_;rintro e w1⟨rfl,hb1⟩;have HB1:=Hi hb1;clear hb1;go_wp2_with fail;refine(HR _).mono ?_;rintro e w2⟨rfl,hb2⟩;have HB2:=Hi (HB1.trans (hb2.mono HB1.size));clear hb2;go_wp2_with fail;exact Dt (v:=.tuple #[.slice none 0 0,.bool true,.bool false]) (by simp[results,results67,go_sem]) rfl (HP _ HB2)
  |some l=>
   rw[hr] at HR hF;have HP:=Hi (show ∀ (W':World) (q:Option Addr) (cap:Nat),AP W' w.heap.size (.slice q l.length cap) l→(q=none→cap=0)→Bw w W'→KW A9 w A name (.returned (.tuple #[.slice q l.length cap,.bool true,.bool true])) W' from fun W' q cap h1 h2 hb=>⟨q,cap,by rw[hF,LV.out];rfl,by rw[hF];exact h1,h2,hb⟩);clear hF hr LV;go_enter func67,ntmps67;go_wp2_with fail;refine HG.mono ?_;rintro e w1⟨rfl,hb1⟩;have HB1:=Hi hb1;clear hb1;go_wp2_with fail;refine(HR _).mono ?_;rintro e w2⟨q,cap,rfl,ast,hqc,hb2⟩;have HB2:=Hi (HB1.trans (hb2.mono HB1.size));have HW:=Hi (Da ast HB1.size);clear hb2 ast;go_wp2_with fail;exact Dt (v:=.tuple #[.slice q l.length cap,.bool true,.bool true]) (by simp[results,results67,go_sem]) rfl (HP _ _ _ HW hqc HB2)
def getV(K:Kind)(A:M)(key:T):T×Bool×Int:=if(Fil.get A (K.nm key)).isSome=true∧(fileOf K A (K.nm key)).isSome=false then([],false,50) else match Ct K A key with
 |some v=>(v,true,0)
 |none=>([],false,0)
theorem XB(K:Kind)(A:M)(key:T):Ct K A key=Fil.get ((fileOf K A (K.nm key)).getD []) key:=by
 unfold Ct;cases fileOf K A (K.nm key)<;>rfl
theorem aaP{l:M}{k:Nat}(hk:k < l.length)(key:T):Fil.get (l.drop k) key=if l[k].1=key then some l[k].2 else Fil.get (l.drop (k+1)) key:=by
 rw[Na hk];unfold Fil.get;by_cases h:l[k].1=key
 ·rw[Ac h,List.find?_cons_of_pos (by simpa using h)];rfl
 ·rw[Aa h,List.find?_cons_of_neg (by simpa using h)]
theorem PR{K:Kind}{A:M}{name:T}:((fileOf K A name).getD []).length≤65535∧∀ p∈(fileOf K A name).getD [],p.1.length≤65535∧p.2.length≤65535:=by
 cases h:fileOf K A name with
 |none=>exact⟨by simp,fun p hp=>by simp at hp⟩
 |some l=>
  unfold fileOf at h;cases hg:Fil.get A name with
  |none=>rw[hg] at h;cases h
  |some d=>rw[hg] at h;exact Vs h
theorem alg{K:Kind}{A:M}{key:T}(h1:(Fil.get A (K.nm key)).isSome=true)(h2:(fileOf K A (K.nm key)).isSome=false):getV K A key=([],false,50):=Ac ⟨h1,h2⟩
theorem alh{K:Kind}{A:M}{key:T}(h:¬ ((Fil.get A (K.nm key)).isSome=true∧(fileOf K A (K.nm key)).isSome=false)):getV K A key=match Fil.get ((fileOf K A (K.nm key)).getD []) key with
 |some v=>(v,true,0)
 |none=>([],false,0):=by unfold getV;rw[Aa h,XB]
def bA(w:World)(q:Option Addr)(cap:Nat)(l:M)(key:T)(i:Value)(wr:World):Prop:=∃ k:Nat,k≤l.length∧i=.int .i64 k∧Bw w wr∧Av wr q l∧Fil.get l key=Fil.get (l.drop k) key
theorem OJ{w w':World}{y:Nat}{A:M}(h:Man.JR w y A)(hb:Bw w w'):Man.JR w' y A:=⟨fun W hW k hk=>h.gets W (hb.trans (hW.mono hb.size)) k hk,h.small⟩
theorem XC(key:T):(A9.nm key).length=17:=J3.len key
theorem mg{w:World}{p y:Nat}{A:M}(hm:DR w p y)(hg:Man.JR w y A)(key:T)(hk:key.length≤1000000):
  Calls prog 34 #[.pointer (some ⟨p,0,none⟩),.string (bs key)] w fun e w'=>e=.returned (.tuple #[.string (bs (getV A9 A key).1),.bool (getV A9 A key).2.1,.int .i64 (getV A9 A key).2.2])∧Bw w w':=by
 have HN:=Hi (bq key w hk);have HO:=Hi (fun(W:World) (hW:Bw w W)=>bz (hm.below hW) (OJ hg hW) (A9.nm key) (by rw[XC];decide));have HV:=Hi (@alh A9 A key);have HB:=Hi (@alg A9 A key);obtain⟨hl,-⟩:=@PR A9 A (A9.nm key);unfold KW at HO;clear hm hg;generalize (fileOf A9 A (A9.nm key)).getD []=l at*;generalize (fileOf A9 A (A9.nm key)).isSome=good at*;generalize (Fil.get A (A9.nm key)).isSome=PS at*;generalize getV A9 A key=V at*;generalize A9.nm key=name at*;by_cases av2:PS=true∧good=false
 ·obtain⟨rfl,rfl⟩:=av2;have hV:=HB rfl rfl;clear HB HV;subst hV;go_enter func34,ntmps34;go_wp2_with fail;refine HN.mono ?_;rintro e w1⟨rfl,hb1⟩;have HB1:=Hi hb1;clear hb1;go_wp2_with fail;refine(HO _ HB1).mono ?_;rintro e w2⟨q,cap,rfl,ast,hqc,hb2⟩;have HB2:=Hi (HB1.trans (hb2.mono HB1.size));clear hb2 ast;go_wp2_with fail;exact Dt (v:=.tuple #[.string (bs []),.bool false,.int .i64 50]) (by simp[results,results34,go_sem];rfl) rfl ⟨rfl,HB2⟩
 ·have Ri:=Hi (HV av2);clear HB HV;have hcs:PS=false∨(PS=true∧good=true):=by
   cases PS<;>cases good<;>simp_all
  clear av2;rcases hcs with rfl|⟨rfl,rfl⟩
  all_goals
   go_enter func34,ntmps34;go_wp2_with fail;refine HN.mono ?_;rintro e w1⟨rfl,hb1⟩;have HB1:=Hi hb1;clear hb1;go_wp2_with fail;refine(HO _ HB1).mono ?_;rintro e w2⟨q,cap,rfl,ast,hqc,hb2⟩;have HB2:=Hi (HB1.trans (hb2.mono HB1.size));have HP:=Hi (Av.BU ast);clear hb2 ast;go_wp2_with fail
   go_loopw [10,28] (fun _ i wr=>bA w q cap l key i wr) (fun _ i _=>l.length -(intOf i).toNat)
   case atStart=>exact⟨0,Ar _,rfl,HB2,HP,rfl⟩
   case round=>
    obtain⟨k,hkl,rfl,hb,hp,av3⟩:=hrel;have HB3:=Hi hb;have OL:=Hi hp;have HG:=Hi av3;clear HB2 HP hb av3;by_cases hlt:k < l.length
    ·obtain⟨a,hix,ha,-⟩:=hp.index cap k hlt;have c0:=ha.key;have c1:=ha.val;have HD:=Hi (HG.trans (aaP hlt key));generalize l[k]=x at*;clear ha hp;by_cases heq:x.1=key
     ·have hV:=Ri.out;rw[HD.out,Ac heq] at hV;subst hV;have Tw:(x.1 == key)=true:=beq_iff_eq.2 heq;go_wp2_with fail;exact Dt (v:=.tuple #[.string (bs x.2),.bool true,.int .i64 0]) (by simp[results,results34,go_sem]) rfl ⟨rfl,HB3.alloc HB3.size _⟩
     ·have Tw:(x.1 == key)=false:=Fq.2 heq;have HD2:=Hi (HD.trans (Aa heq));go_wp2_with fail;go_roundw
      case rel=>
       have GX:=Hi (show ∀ o,bA w q cap l key (.int .i64 ((k:Int)+1)) (wr.alloc o) from fun o=>⟨k+1,by omega,by go_num,HB3.alloc HB3.size o,OL.below (Am wr o),HD2⟩)
       first
       |exact GX _
       |(repeat apply Exists.intro
         refine⟨?_,rfl⟩;exact GX _)
      case measure=>
       show l.length -((k:Int)+1).toNat < l.length -((k:Int)).toNat
       omega
    ·obtain rfl:k=l.length:=(by omega);have hV:=Ri.out;rw[HG.out,List.drop_length] at hV;change V=([],false,0) at hV;subst hV;clear hp;go_wp2_with fail;exact Dt (v:=.tuple #[.string (bs []),.bool false,.int .i64 0]) (by simp[results,results34,go_sem];rfl) rfl ⟨rfl,HB3⟩
theorem aaQ{w:World}{p y:Nat}{c:Int}{P:World→World→Prop}(hm:DR w p y)(hf:Calls prog 140 #[.pointer (some ⟨y,0,none⟩)] w fun e w'=>e=.returned (.int .i64 c)∧P w w'):
  Calls prog 64 #[.pointer (some ⟨p,0,none⟩)] w fun e w'=>e=.returned (.int .i64 c)∧P w w':=by
 have c0:=hm.cell;have HF:=Hi hf;clear hf hm;go_enter func64,ntmps64;go_wp2_with fail;refine HF.mono ?_;rintro e w1⟨rfl,hb1⟩;go_wp2_with fail;go_ret;exact⟨rfl,hb1⟩
end Mem
section
open Go.RowKit Go.Maps
open Fil
section
variable {w w':World}{b y n N:Nat}{bl:Nat→Prop}{A A':M}{dn:Bool}
end
end
end Go.Proofs.YtmbbhdebddbhoaaGreat
