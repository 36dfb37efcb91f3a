/- SweM SweT DepA SweW FckW BrF FckO SweS SweF -/
import Derived.Test.YtkmninbcgipliaaGreatDoorQ16
import Derived.Laws.EntriesVeiled
set_option maxHeartbeats 8000000
set_option maxRecDepth 100000
set_option linter.all false
namespace Go.Proofs.YtkmninbcgipliaaGreatDoor
open Go.Proofs.Tryz
open Go.RowKit
open Go.Maps
namespace IC
open Aq Af Ap Bu Kp BM Hex BD Al Mem Cg
def Nv(w:World)(m:Nat)(c:T→Nat)(n:Nat):Prop:=
 ∃ kv:List (T×Value),FU prog 9 w m kv∧kv.length≤n∧∀ t,(DW kv t).getD (.agg #[.int .i64 0])=.agg #[.int .i64 (c t:Int)]
theorem awG:(prog.info? 330).map (fun i=>(i.zero,i.size))=some (some (.agg #[.int .i64 0]),1):=by kernel_rfl
theorem awJ(w:World):(zeroValue 330).run prog w=.ok (.agg #[.int .i64 0]) w:=(zero_of_info awG).1 w
theorem amt(W:World)(v:Value):(Instr.field 330 (.agg #[v]) 0).run prog W=.ok v W:=by
 simp[Instr.field,GK underlying330,go_sem,asAgg,Result.andThen]
section
variable {w w':World}{m n:Nat}{c:T→Nat}
theorem Nv.made(w:World):Nv (w.alloc (.map #[] 0)) w.heap.size (fun _=>0) 0:=⟨[],FU.made w,Ae _,fun t=>rfl⟩
theorem Nv.below(h:Nv w m c n)(hb:Bw w w'):Nv w' m c n:=by
 obtain⟨kv,h1,h2,h3⟩:=h;exact⟨kv,h1.kept (hb.block m h1.lt),h2,h3⟩
theorem Nv.get(h:Nv w m c n)(t:T)(ht:t.length≤maxLen):(Instr.lookup 293 (.map (some m)) (.string (bs t)) false).run prog w=.ok (.agg #[.int .i64 (c t:Int)]) w:=by
 obtain⟨kv,h1,h2,h3⟩:=h;rw[h1.lookup underlying9 underlying293 (awJ w) t ht,h3]
theorem Nv.put(h:Nv w m c n)(t:T)(ht:t.length≤maxLen)(hn:n < maxLen):∃ w',(Instr.mapUpdate 293 (.map (some m)) (.string (bs t)) (.agg #[.int .i64 ((c t:Int)+1)])).run prog w=.ok () w'∧Nv w' m (fun s=>if s=t then c s+1 else c s) (n+1)∧w.grownBy w' (some m):=by
 obtain⟨kv,h1,h2,h3⟩:=h;obtain⟨w',hrun,h4,h5⟩:=h1.update underlying9 underlying293 t ht (.agg #[.int .i64 ((c t:Int)+1)]) (by omega);refine⟨w',hrun,⟨_,h4,?_,fun s=>?_⟩,h5⟩
 ·unfold QS;rw[BN];have:(J9 t kv).length≤kv.length:=LK _ _;omega
 ·by_cases e:s=t
  ·subst e;rw[amM]
   show Value.agg #[.int .i64 ((c s:Int)+1)]=Value.agg #[.int .i64 ((if s=s then c s+1 else c s:Nat):Int)]
   rw[Ac rfl];rfl
  ·rw[amL e,h3 s]
   show _=Value.agg #[.int .i64 ((if s=t then c s+1 else c s:Nat):Int)]
   rw[Aa e]
end
theorem ase{w:World}{m n:Nat}{c:T→Nat}(h:Nv w m c n)(t:T)(ht:t.length≤1000000):
  Calls prog 216 #[.map (some m),.string (bs t)] w fun e w'=>e=.returned (.bool (decide (c t=0)))∧w=w':=by
 have NQ:=h.get t (by unfold maxLen;omega);have aie:=fun W=>amt W (.int .i64 (c t:Int))
 clear h;generalize c t=k at*
 go_in
 go_wp2;go_ret;refine⟨?_,rfl⟩;by_cases hk:k=0
 ·subst hk;rfl
 ·have:((k:Int) == 0)=false:=EH.2 (by omega);simp[this,hk]
theorem azk(p d:Nat)(w:World):Calls prog 212 #[.pointer (some ⟨p,0,none⟩),.pointer (some ⟨d,0,none⟩)] w fun e w'=>e=.returned (.int .i64 0)∧w=w':=by
 go_in
 go_wp2;go_ret;exact⟨rfl,rfl⟩
def aeM(w:World)(m n:Nat)(c:T→Nat)(ks:List T)(i:Value)(wr:World):Prop:=
 ∃ k:Nat,k≤ks.length∧i=.int .i64 (k:Int)∧Nv wr m (fun t=>c t+(ks.take k).count t) (n+k)∧A7 (fun j=>j=m) w wr
theorem awI{w:World}{m n:Nat}{c:T→Nat}{q:Option Addr}{cap:Nat}{ks:List T}(h:Nv w m c n)(hk:Dv w q ks)(XB:∀ p,q=some p→ks≠[]→p.block≠m)(Ka:∀ t∈ks,t.length≤1000000)(hl:n+ks.length≤100000000)(hc:∀ t,c t≤100000000):
  Calls prog 213 #[.map (some m),.slice q ks.length cap] w fun e w'=>(∃ v,e=.returned v)∧Nv w' m (fun t=>c t+ks.count t) (n+ks.length)∧A7 (fun j=>j=m) w w':=by
 have HH:=Hi h;have HK:=Hi hk;have HKM:=Hi XB;have Ld:=Hi Ka;have HC:=Hi hc;clear h hk XB Ka hc
 go_in
 go_wp2
 go_loopw [8] (fun i wr=>aeM w m n c ks i wr) (fun i _=>ks.length -(intOf i).toNat)
 case atStart=>exact⟨0,AZ _,rfl,by simpa using HH.out,A7.refl _ _⟩
 case round=>
  obtain⟨k,DX,rfl,hm,hu⟩:=hrel;have HU:=Hi hu;have HM:=Hi hm;by_cases hlt:k < ks.length
  ·obtain⟨a,Cx,c0⟩:=(HK.upd hu (fun p hp hne=>HKM p hp hne)).index cap k hlt;have XA:=Ld _ (Dc hlt);have CX:=Hi (CQ hlt);generalize ks[k]=key at*;have NQ:=hm.get key (by unfold maxLen;omega);obtain⟨w3,av9,Uv,Xu⟩:=hm.put key (by unfold maxLen;omega) (by unfold maxLen;omega);have qF:(ks.take k).count key≤ks.length:=Ay List.count_le_length (by rw[Be];omega);have Pz:=HC key;obtain⟨x,hx⟩:=ex (c key+(ks.take k).count key);have aie:=fun W=>amt W (.int .i64 (x:Int))
   have ZE:IntKind.i64.wrap ((x:Int)+1)=(x:Int)+1:=Eh _ (by omega);simp only[hx] at NQ av9
   have Cz:=Hi (show aeM w m n c ks (.int .i64 ((k:Int)+1)) w3 from⟨k+1,by omega,by go_num,by
    have e:(fun t=>c t+(ks.take (k+1)).count t)=(fun s=>if s=key then(c s+(ks.take k).count s)+1 else c s+(ks.take k).count s):=by
     funext t
     rw[CX.out,List.count_append];by_cases e:t=key
     ·subst e;rw[Ac rfl];simp;omega
     ·rw[Aa e];have:[key].count t=0:=by
       rw[List.count_eq_zero];simpa using e
      omega
    rw[e];exact Uv,HU.trans (A7.of_grownBy (F:=fun j=>j=m) Xu (fun j e=>(Gu e).symm)) (fun _ f=>.inl f)⟩)
   clear hm hu Uv Xu qF Pz;go_wp2;go_roundw
   case rel=>exact Cz.out
   case measure=>
    show ks.length -((k:Int)+1).toNat < ks.length -((k:Int)).toNat
    omega
  ·obtain rfl:k=ks.length:=(by omega);have rz:=HM.out;rw[Dq] at rz;have HMF:=Hi rz;clear hm hu rz;go_wp2_with fail
   go_end0
   exact⟨⟨_,rfl⟩,HMF,HU⟩
def adD(K:World→Prop)(v:Value)(f:T→Bool):Prop:=
 ∃ F recv JC,v=.func (.func F) recv JC∧(∀ args w,(callFunc F args).run prog w=.ok (.enter F args) w)∧
  ∀ W p,p.length≤1000000→K W→Calls prog F (recv++ #[.string (bs p)]++JC) W fun e W'=>e=.returned (.bool (f p))∧W=W'
def y9(w:World)(f:T→Bool)(ks:List T)(s i:Value)(wr:World):Prop:=
 ∃ (k:Nat) (o:List T) (q:Option Addr) (c:Nat),k≤ks.length∧i=.int .i64 (k:Int)∧s=.slice q o.length c∧Ap.Bq wr w.heap.size (.slice q o.length c) o∧o=(ks.take k).filter f∧Bw w wr
theorem aAo{w:World}{K:World→Prop}{v:Value}{f:T→Bool}{q:Option Addr}{cap:Nat}{ks:List T}(hk:Dv w q ks)(hf:adD K v f)(hK:∀ W,Bw w W→K W)(Ka:∀ t∈ks,t.length≤1000000)(hl:ks.length≤1000000):
  Calls prog 215 #[.slice q ks.length cap,v] w fun e w'=>∃ u,e=.returned u∧Ap.Bq w' w.heap.size u (ks.filter f)∧Bw w w':=by
 obtain⟨F,recv,JC,rfl,NL,K7⟩:=hf;obtain⟨i0,Bg,AX,AY,Ba⟩:=DI RX;have HC:=Hi K7;have HK:=Hi hK;have HT:=Hi hk;have Ld:=Hi Ka;clear K7 hK hk Ka
 go_in
 go_wp2
 go_loopw [4,9] (fun s i wr=>y9 w f ks s i wr) (fun _ i _=>ks.length -(intOf i).toNat)
 case atStart=>exact⟨0,[],none,0,AZ _,rfl,rfl,um _ _,by simp,Ah _ _⟩
 case round=>
  obtain⟨k,o,qo,co,DX,rfl,rfl,Ag,ho,hb⟩:=hrel;have HB:=Hi hb;have HR:=Hi Ag;have HO:=Hi ho;have QD:o.length≤1000000:=by
   rw[ho];have:=LK f (ks.take k);rw[Be] at this;omega
  clear Ag ho;by_cases hlt:k < ks.length
  ·obtain⟨a,Cx,c0⟩:=(HT.below hb).index cap k hlt;have hkx:=Ld _ (Dc hlt);have CX:=Hi (CQ hlt);generalize ks[k]=x at*;have EL:=Hi (HC wr x hkx (HK wr hb));have hbs:=hb.size;clear hb;cases cO:f x with
   |false=>
    rw[cO] at EL;have Cz:=Hi (show y9 w f ks (.slice qo o.length co) (.int .i64 ((k:Int)+1)) wr from⟨k+1,o,qo,co,by omega,by go_num,rfl,HR,by rw[CX.out,LJ,←HO.out];simp[cO],HB⟩);clear cO;go_wp2_with fail;refine EL.mono ?_;rintro e w1⟨rfl,Jr⟩;subst Jr;go_wp2;go_roundw
    case rel=>exact Cz.out
    case measure=>
     show ks.length -((k:Int)+1).toNat < ks.length -((k:Int)).toNat
     omega
   |true=>
    rw[cO] at EL;have HOX:=Hi (show o++[x]=(ks.take (k+1)).filter f from by rw[CX.out,LJ,←HO.out];simp[cO]);clear cO;go_wp2_with fail;refine EL.mono ?_;rintro e w1⟨rfl,Jr⟩;subst Jr;go_wp2_with (at_builtin;refine wpList_append_own_at _ rfl _ _ 61 rfl w.heap.size 9 i0 _ 1 16 underlying61 Bg AX AY Ba rfl (by decide) _ o.length _ rfl (HR.alloc _) ⟨wr.heap.size,0,none⟩ 1 1 [.string (bs x)] rfl rfl (by intro j u hj;rw[add_plain,E8];exact(Dx▸hj)) (by simp[Value.oneCell']) (by unfold maxLen;omega) (by omega) (by simp;omega) ?_;intro v' w4 Ck AJ _ hat;obtain⟨g',cap',rfl⟩:=ownsRow_succ Ck;have Sz:=Hi Ck;have HG:=Hi AJ;clear Ck AJ hat)
    have Cz:=Hi (show y9 w f ks (.slice (some ⟨g',0,none⟩) (o.length+1) cap') (.int .i64 ((k:Int)+1)) w4 from⟨k+1,o++[x],some ⟨g',0,none⟩,cap',by omega,by go_num,by rw[Az];rfl,by
     unfold Ap.Bq;rw[Az,show strCells (o++[x])=strCells o++[.string (bs x)] by unfold strCells;rw[D6];rfl];exact Sz.out,HOX,(HB.alloc HB.size _).grown HG (by rw[Ar];have:=HB.size;omega) (fun j hj=>Ec HR hj)⟩)
    go_roundw
    case rel=>exact Cz.out
    case measure=>
     show ks.length -((k:Int)+1).toNat < ks.length -((k:Int)).toNat
     omega
  ·obtain rfl:k=ks.length:=(by omega);have hof:=HO.out;rw[Dq] at hof;subst hof;clear hb;go_wp2;go_ret;exact⟨_,rfl,HR,HB⟩
end IC
namespace Cg
open Go.Shelf
open Aq Af Ap Bu Kp BM Hex BD Al Mem
attribute [local go_sem] O4
attribute [local go_sem ↓] bf
def EY(l:M):List T:=l.flatMap fun p=>(Dl p.2).getD []
theorem aw1(l:M)(p:T×T):EY (l++[p])=EY l++(Dl p.2).getD []:=by unfold EY;rw[Nk];simp
def Nz(A:M)(ks:List T):List T:=ks.flatMap fun t=>EY ((fileOf Ab A t).getD [])
theorem yg(A:M)(ks:List T)(t:T):Nz A (ks++[t])=Nz A ks++EY ((fileOf Ab A t).getD []):=by unfold Nz;rw[Nk];simp
theorem aeW(A:M)(ks:List T):Nz A ks=EY (JR Ab A ks):=by
 induction ks using UN with
 |h0=>rfl
 |h1 ks t ih=>
  rw[yg,lD,ih];unfold EY;rw[Nk]
theorem ays{s:T}:((Dl s).getD []).length≤s.length:=by
 cases h:Dl s with
 |none=>exact AZ _
 |some l=>
  have h2:=lh h;unfold Gt at h2;split at h2
  ·cases ht:BB l with
   |none=>rw[ht] at h2;cases h2
   |some a=>
    rw[ht] at h2;simp only[EP,Ci] at h2;have h3:l.length≤a.length:=by
     clear h h2
     revert ht
     revert a
     rename_i hx
     clear hx;intro a ht
     induction l generalizing a with
     |nil=>exact AZ _
     |cons x l ih=>
      simp only[BB] at ht;cases h1:Em x with
      |none=>rw[h1] at ht;cases ht
      |some y=>
       cases h4:BB l with
       |none=>rw[h1,h4] at ht;cases ht
       |some z=>
        rw[h1,h4] at ht;simp only[CF,EP,Ci] at ht;subst ht;have:=ih z h4;unfold Em at h1;split at h1
        ·simp only[Ci] at h1;subst h1;have GU:(A9.le 2 x.length).length=2:=A9.BV _ _;simp only[Az,BN,GU];omega
        ·cases h1
    rw[←h2]
    show l.length≤_
    rw[Az];omega
  ·cases h2
theorem aw0(l:M):(EY l).length≤(l.map fun p=>p.2.length).sum:=by
 induction l with
 |nil=>exact Ae _
 |cons p l ih=>
  show((Dl p.2).getD []++EY l).length≤_
  rw[Az,Ce,Eo];have:=@ays p.2;omega
def JU(A:M)(w:World)(oc B:Nat)(ks:List T)(W:World):Prop:=
 ∃ v,Ex 9 61 1 w oc B W (Nz A ks).length (strCells (Nz A ks)) v∧(ks=[]→v=.slice none 0 0)
theorem abF(A:M)(w:World)(oc:Nat):WT w oc (JU A w oc) where
 below:=fun B ks W W' ⟨v,h1,h2⟩ hb=>⟨v,h1.below hb,h2⟩
 raise:=fun B B' W ⟨v,h1,h2⟩ hb hs=>by
  have e:=h2 rfl;subst e;have e2:Nz A []=[]:=rfl;rw[e2,QT] at h1;exact⟨_,by rw[e2,QT];exact Ex.raise h1 hb hs,fun _=>rfl⟩
 put:=fun B ks W k o o' ⟨v,h1,h2⟩ ho hc hk=>⟨v,h1.put ho hc hk,h2⟩
def adw(w W:World)(oc B:Nat)(q2:Option Addr)(l:M)(acc:List T)(i:Value)(wr:World):Prop:=
 ∃ (k:Nat) (v:Value),k≤l.length∧i=.int .i64 (k:Int)∧Ex 9 61 1 w oc B wr (acc++EY (l.take k)).length (strCells (acc++EY (l.take k))) v∧A7 (fun j=>j=oc∨B≤j) W wr∧KeepsOthers W wr∧Bj wr q2 l∧∀ p,q2=some p→l≠[]→Bf wr p.block 51
theorem aw2{w wr V:World}{oc B:Nat}{acc kr:List T}{qv:Option Addr}{cv:Nat}(hO:Ex 9 61 1 w oc B wr acc.length (strCells acc) (.slice qv acc.length cv))(hV:Bw wr V){kq:Option Addr}{kc:Nat}(CJ:Ap.Bq V wr.heap.size (.slice kq kr.length kc) kr)(hlen:acc.length+kr.length≤1000000000):
  ∃ q7 c7 w7,(Vt #[61,61] 61 #[.slice qv acc.length cv,.slice kq kr.length kc]).run prog V=.ok (.slice q7 (acc.length+kr.length) c7) w7∧
   V.cell? ⟨oc,0,none⟩=some (.slice qv acc.length cv)∧w7.cell? ⟨oc,0,none⟩=some (.slice qv acc.length cv)∧w7.frozen? ⟨oc,0,none⟩=false∧
   Ex 9 61 1 w oc B (w7.setCell ⟨oc,0,none⟩ (.slice q7 (acc.length+kr.length) c7)) (acc++kr).length (strCells (acc++kr)) (.slice q7 (acc.length+kr.length) c7)∧
   A7 (fun k=>k=oc∨Bf wr k 9) wr (w7.setCell ⟨oc,0,none⟩ (.slice q7 (acc.length+kr.length) c7))∧A7 (fun k=>k=oc∨B≤k) wr (w7.setCell ⟨oc,0,none⟩ (.slice q7 (acc.length+kr.length) c7))∧
   KeepsOthers wr (w7.setCell ⟨oc,0,none⟩ (.slice q7 (acc.length+kr.length) c7)):=by
 have Qs:=hO.below hV;have dz:kq=none→kc=0:=fun e=>by
  rcases CJ.2 with⟨e1,_⟩|⟨g,cap,cur,e1,_⟩
  ·injection e1
  ·rw[e] at e1;injection e1 with e1;cases e1
 obtain⟨v7,w7,QG,Ls,Im⟩:=acU (W:=V) Qs.row (I6 CJ) dz (by omega) Qs.size;obtain⟨q7,c7,rfl⟩:=Bp Ls;have NK:=(Im.block oc (Ao Qs.box) (fun e=>(Qs.ne e.symm).1 rfl)).trans Qs.box;refine⟨q7,c7,w7,QG,cr Qs.box,cr NK,Cu w7 oc 0 _ _ NK,?_,?_,hO.turned hV Im _,hO.keeps hV Im _⟩
 ·have bR:=hO.add hV Im Ls;rw[Az,show strCells (acc++kr)=strCells acc++strCells kr by unfold strCells;rw[D6]];exact bR
 ·have h1:A7 (fun k=>k=oc∨Bf wr k 9) wr V:=A7.of_below (F:=fun k=>k=oc∨Bf wr k 9) hV;have h2:A7 (fun k=>k=oc∨Bf wr k 9) V w7:=A7.of_grownBy (F:=fun k=>k=oc∨Bf wr k 9) Im (fun k e=>.inr (CB hO.row e));exact(h1.trans h2 (fun _ f=>.inl f)).setCell (p:=⟨oc,0,none⟩) (show(oc=oc∨_)∨_ from .inl (.inl rfl)) _
theorem aqN{w:World}{p y:Nat}{A:M}(hm:Fx w p y)(hf:Hm w y A)(hl:(EN Ab A).length≤1000000)(hlu:(EY (EN Ab A)).length≤1000000):
  Calls prog 214 #[.pointer (some ⟨p,0,none⟩)] w fun e w'=>∃ v,e=.returned v∧Ap.Bq w' w.heap.size v (Bc (EY (EN Ab A)))∧Bw w w':=by
 refine(Dr (n:=3)).1 ?_;have QA:prog.follows .mixedOrders=true:=by kernel_rfl
 have HM:=Hi hm;have HF:=Hi hf;have HE:=Hi (uu (K:=Ab) hf.up);have HL:=Hi hl;have HLU:=Hi hlu;clear hm hf hl hlu;refine callsIn_of_wp_marks func214 rfl trivial ?_ rfl;simp only[ntmps214,Kr,BN,Iu,Nat.reduceAdd,Nat.reduceSub,Mm,Mq,Mv,Ms,Ev,Hf]
 gi_wp2
 have Bb:=AV w (.cells #[.slice none 0 0] 61);have II:Ex 9 61 1 w w.heap.size (w.heap.size+1) (w.alloc (.cells #[.slice none 0 0] 61)) 0 [] (.slice none 0 0):=⟨Bb,Ae _,Nat.lt_succ_self _,by rw[Ar];exact Ae _,AP w _,E5 _ _ _ _⟩;have P8:=Hi II;refine⟨trivial,(Dr.2 (yT p _)).mono ?_⟩;rintro e w2⟨rfl,Kh⟩;subst Kh
 gi_wp2
 have EK:=Hi (AP (w.alloc (.cells #[.slice none 0 0] 61)) (.cells #[.pointer (some ⟨p,0,none⟩)] 44));have Ad:=AV (w.alloc (.cells #[.slice none 0 0] 61)) (.cells #[.pointer (some ⟨p,0,none⟩)] 44);have CW:=Hi (P8.below Ad);have Dz:=Hi (Ar w (.cells #[.slice none 0 0] 61));obtain⟨Bx,Ik⟩:=ex ((w.alloc (.cells #[.slice none 0 0] 61)).heap.size);rw[Ik] at EK Dz;rw[show w.heap.size+1=Bx from Dz.symm];obtain⟨U,hU⟩:=ex ((w.alloc (.cells #[.slice none 0 0] 61)).alloc (.cells #[.pointer (some ⟨p,0,none⟩)] 44));rw[hU] at EK CW ⊢;clear Bb Ad II P8 Ik hU;refine adq (s:=4) (by omega) (gf:=201) (lb:=#[.pointer (some ⟨Bx,0,none⟩)]) rfl (enters_of func201 (by kernel_rfl) rfl) (e1:=fun x:Gb=>.string (bs x.name)) (e2:=fun x:Gb=>x.row)
  (Ia:=O5 w w.heap.size Bx (.pointer (some ⟨p,0,none⟩)) 44 Ab A (JU A w w.heap.size)) (Iy:=TL w w.heap.size Bx (.pointer (some ⟨p,0,none⟩)) 44 Ab A (JU A w w.heap.size))
  (fun xs=>iF (abF _ _ _) CW.AQ.size xs) (fun xs x=>iH (abF _ _ _) CW.AQ.size xs x)
  (yS 2 (by omega) HM HF w.heap.size Bx (abF _ _ _) U) (.inl ⟨rfl,CW.AQ,Ae _,by have:=Dz.out;omega,EK,w.heap.size+1,CW.size,.slice none 0 0,by rw[show Nz A []=[] from rfl,QT];exact CW.out,fun _=>rfl⟩)
  ?assign ?body ?done
 case assign=>
  intro l x W K hK;simp only[np] at hK ⊢
  gi_wp2
  exact hK
 case body=>
  intro l2 pre x W hy;obtain⟨hS,hG,hT,⟨v,hO,-⟩,⟨q2,c2,FH,hP,Fp,hPB⟩⟩:=hy;have IE:=(bE (K:=Ab) (A:=A) (name:=x.name));have HO:=Hi hO;have HS:=Hi hS;have HG:=Hi hG;have HT:=Hi hT;have HP:=Hi hP;have U1:=Hi hPB;have Rh:=Hi IE.2;have hlen:=IE.1;simp only[np];rw[FH];clear hP Fp FH hO hS hG hT hPB IE;generalize jL:(fileOf Ab A x.name).getD []=fr at*
  gi_wp2
  obtain⟨acc,jq⟩:=ex (Nz A (pre.map (·.name)));have ao8:=Hi jq
  have mY:=Hi (show acc.length+(EY fr).length≤1000000 from by
   obtain⟨ts,J3⟩:=HT.out;have h1:=aeW A (I4 Ab A);rw[HE.out] at h1;have h2:(Nz A (I4 Ab A)).length≤1000000:=(by rw[h1];exact HLU.out);rw[←J3,show pre.map (·.name)++x.name :: ts=(pre.map (·.name)++[x.name])++ts by simp] at h2;unfold Nz at h2;rw[Nk,Az] at h2;have h3:=yg A (pre.map (·.name)) x.name;unfold Nz at h3;rw[h3,Az] at h2;unfold Nz at jq;rw[jq,jL] at h2;omega)
  rw[jq] at HO;have HFR:=Hi jL;have OE:W.heap.size=W.heap.size:=rfl;obtain⟨W0,hW0⟩:∃ W0,W0=W:=⟨_,rfl⟩;clear jL jq OE
  gi_loopw [13] (fun i wr=>adw w W w.heap.size x.B q2 fr acc i wr) (fun i _=>fr.length -(intOf i).toNat)
  case atStart=>exact⟨0,v,AZ _,rfl,by rw[I8,show EY []=[] from rfl,En];exact HO.out,A7.refl _ _,KeepsOthers.refl _,HP,U1⟩
  case round=>
   obtain⟨k,v1,DX,rfl,h1,h2,h3,h4,h5⟩:=hrel;have H1:=Hi h1;have H2:=Hi h2;have H3:=Hi h3;have H4:=Hi h4;have H5:=Hi h5;clear h2 h3 h5;by_cases hlt:k < fr.length
   ·obtain⟨a,Cx,ha,-⟩:=h4.index c2 k hlt;have c0:=ha.key;have c1:=ha.val;have rV:=(Rh _ (Dc hlt)).2;have CX:=Hi (show EY (fr.take (k+1))=EY (fr.take k)++(Dl fr[k].2).getD [] from by rw[CQ hlt,aw1])
    have mQ:=Hi (show acc.length+(EY (fr.take k)).length+((Dl fr[k].2).getD []).length≤1000000 from by
     have h6:EY fr=EY (fr.take (k+1))++EY (fr.drop (k+1)):=by
      unfold EY;rw[←Nk,Mw]
     have h7:=mY.out;rw[h6,CX.out,Az,Az] at h7;omega)
    generalize fr[k]=pr at*;have aH:=Hi (fun(V:World)=>afQ pr V rV);generalize CJ:(Dl pr.2).getD []=kr at*;generalize bQ:acc++EY (fr.take k)=ac at*;have ax:=Hi bQ;have aCr:ac.length+kr.length≤1000000:=(by rw[←bQ,Az];exact mQ.out);obtain⟨qv,cv,rfl⟩:=Bp h1.row;have C8:=AV wr (.cells #[.string (bs pr.1),.string (bs pr.2)] 51);have cb:wr.cell? ⟨w.heap.size,0,none⟩=some (.slice qv ac.length cv):=cr h1.box;have JH:=AP wr (.cells #[.string (bs pr.1),.string (bs pr.2)] 51);have abh:=Ar wr (.cells #[.string (bs pr.1),.string (bs pr.2)] 51);clear h1 h4 ha bQ CJ
    gi_wp2
    have Au:=Hi C8;have yF:(wr.alloc (.cells #[.string (bs pr.1),.string (bs pr.2)] 51)).cell? ⟨wr.heap.size,0,none⟩=some (.string (bs pr.1)):=cr JH;have yG:(wr.alloc (.cells #[.string (bs pr.1),.string (bs pr.2)] 51)).cell? ⟨wr.heap.size,1,none⟩=some (.string (bs pr.2)):=cr JH;have cbo:(wr.alloc (.cells #[.string (bs pr.1),.string (bs pr.2)] 51)).cell? ⟨w.heap.size,0,none⟩=some (.slice qv ac.length cv):=(C8.cell (p:=⟨w.heap.size,0,none⟩) (D7 cb)).trans cb;obtain⟨V,hV⟩:=ex (wr.alloc (.cells #[.string (bs pr.1),.string (bs pr.2)] 51));rw[hV] at Au yF yG cbo abh ⊢;obtain⟨b,hb⟩:=ex (wr.heap.size);have Rf:=Hi hb;have HSA:=Hi abh;rw[hb] at yF yG ⊢;clear JH abh C8 hV hb c0 c1 cb Cx;have vF:=Hi (fun(V2:World) (Lj:Bw wr V2) (kq:Option Addr) (kc:Nat) (CJ:Ap.Bq V2 wr.heap.size (.slice kq kr.length kc) kr)=>aw2 H1 Lj CJ (by omega));have aC5:V.drew.cell? ⟨w.heap.size,0,none⟩=some (.slice qv ac.length cv):=cbo;have aC2:V.drew.cell? ⟨b,0,none⟩=some (.string (bs pr.1)):=yF;have aC3:V.drew.cell? ⟨b,1,none⟩=some (.string (bs pr.2)):=yG
    gi_region_with_o (refine⟨trivial,(CallsIn.inRound l2 ((Dr (n:=0)).2 (aH _))).mono ?_⟩;rintro e w4 ⟨kv,rfl,CJ,AB⟩;obtain⟨kq,kc,rfl⟩:=Bp CJ;have Bo:Bw wr w4:=(by first|exact Au.trans (AB.mono Au.size)|exact Au.trans ((Ah _ V).drew.trans (AB.mono (Ae _)) |>.mono Au.size));obtain⟨q7,c7,w7,QG,Md,Xm,Zc,Ls,dR,rY,jQ⟩:=vF w4 Bo kq kc (Fu CJ (by first|exact Au.size|(rw[World.size_drew];exact Au.size)));have HO7:=Hi Ls;have aP:=Hi dR;have HV7:=Hi rY;have V8:=Hi jQ;clear Ls dR rY jQ CJ AB Bo;gi_wp2)
    all_goals
     have Cz:=Hi (show adw w W w.heap.size x.B q2 fr acc (.int .i64 ((k:Int)+1)) (w7.setCell ⟨w.heap.size,0,none⟩ (.slice q7 (ac.length+kr.length) c7)) from
      ⟨k+1,_,by omega,by go_num,by rw[CX.out,←Dy,ax.out];exact HO7.out,H2.trans HV7 (fun _ f=>.inl f),H3.trans V8.out,H4.upd aP (fun p e hne=>fun f=>by
       rcases f with f|⟨cs,fr,f⟩
       ·obtain⟨cs,fr,hb⟩:=H5 p e hne;rw[f,H1.box] at hb;injection hb with hb
        injection hb with _ hb
        exact absurd hb (by decide)
       ·obtain⟨cs2,fr2,hb⟩:=H5 p e hne;rw[hb] at f;injection f with f
        injection f with _ f
        exact absurd f (by decide)),fun p e hne=>by
       obtain⟨cs,fr,hb⟩:=H5 p e hne;refine⟨cs,fr,(aP.block _ (Ao hb) (fun f=>?_)).trans hb⟩;rcases f with f|⟨cs2,fr2,f⟩
       ·rw[f,H1.box] at hb;injection hb with hb
        injection hb with _ hb
        exact absurd hb (by decide)
       ·rw[hb] at f;injection f with f
        injection f with _ f
        exact absurd f (by decide)⟩)
     gi_wp2
     go_roundw
     case rel=>exact Cz.out
     case measure=>
      show fr.length -((k:Int)+1).toNat < fr.length -((k:Int)).toNat
      omega
   ·obtain rfl:k=fr.length:=(by omega);have Dh:=Hi (show O5 w w.heap.size Bx (.pointer (some ⟨p,0,none⟩)) 44 Ab A (JU A w w.heap.size) (pre++[x]) wr from iI HS HG HT H2 ⟨v1,by rw[yg,ao8.out,HFR.out];have:=H1.out;rw[I7 (Ae _)] at this;exact this,fun e=>by simp at e⟩);clear h1 h4
    gi_wp2
    exact⟨H3,Dh⟩
 case done=>
  intro D xs W hD hS hI Df;obtain⟨B,v,hO,-⟩:=iG hI;rw[hS] at hO;obtain⟨q,c,rfl⟩:=Bp hO.row;have Pf:=Hi (show Nz A (I4 Ab A)=EY (EN Ab A) from by rw[aeW,HE.out]);have hRl:(Nz A (I4 Ab A)).length≤1000000:=by rw[Pf.out];exact HLU.out
  have Ej:=Hi (yZ (w:=W) (base:=B) hO.row hRl);have HO:=Hi hO;have Sw:=Hi Df;have HD:=Hi (show w.heap.size≤D from Ay (Ay (Nat.le_succ _) CW.size) hD);generalize Nz A (I4 Ab A)=R at*;have cb:W.cell? ⟨w.heap.size,0,none⟩=some (.slice q R.length c):=cr hO.box;clear hS hI Df hD hO
  gi_wp2
  refine⟨trivial,(Dr.2 Ej).mono ?_⟩;rintro e w5⟨rv,rfl,FP,Bo⟩;obtain⟨rq,rc,rfl⟩:=Bp FP;have SS:=(Bo.block _ (Ao HO.box)).trans HO.box;have c5:w5.cell? ⟨w.heap.size,0,none⟩=some (.slice q R.length c):=cr SS;have hf5:=Cu w5 w.heap.size 0 _ _ SS;have Te:=(Bo.block D (Dm.1 Sw).1).trans Sw.out;have Kg:=(A7.refl (fun k=>k=w.heap.size) w5).setCell (p:=⟨w.heap.size,0,none⟩) (.inl rfl) (.slice rq (Bc R).length rc);have SV:=Cf w5 w.heap.size 0 _ _ (.slice rq (Bc R).length rc) SS
  have IU:=Hi ((Kg.block D (Dm.1 Te).1 (fun e=>by
   rw[e,SS] at Te;cases Te)).trans Te)
  have jW:=HO.lt
  have Kc:=BH (Fu FP HO.AQ.size) Kg (fun k hk e=>by
   have h1:=Ec FP hk;have h2:=Ao HO.box;omega)
  have EJ:=Hi ((HO.AQ.trans (Bo.mono HO.AQ.size)).setCell (p:=⟨w.heap.size,0,none⟩) (Ae _) (.slice rq (Bc R).length rc));have Ho:=Hi Kc
  have V4:=Hi (show((w5.setCell ⟨w.heap.size,0,none⟩ (.slice rq (Bc R).length rc)).putObj D (.deferred none)).cell? ⟨w.heap.size,0,none⟩=some (.slice rq (Bc R).length rc) from by
   rw[BF _ _ _ _ _ _ (RP SV IU rfl)];rfl)
  clear FP Bo SS Te Kg SV Kc
  gi_wp2
  refine⟨by simp,.inl ⟨_,_,rfl,run_takeDeferred IU,?_⟩⟩;have hu:A7 (fun i=>i=D) (w5.setCell ⟨w.heap.size,0,none⟩ (.slice rq (Bc R).length rc)) ((w5.setCell ⟨w.heap.size,0,none⟩ (.slice rq (Bc R).length rc)).putObj D (.deferred none)):=A7.of_grownBy (F:=fun i=>i=D) (grownBy_putObj' _ D (.deferred none)) (fun i e=>by cases e;rfl);refine⟨_,(by simp[results,results214,go_sem,V4.out]),.slice rq (Bc R).length rc,rfl,?_,Cq EJ hu (fun i e=>by rw[e];exact HD.out) EJ.size⟩;rw[←Pf.out]
  exact BH Ho hu (fun k hk e=>by
   obtain⟨cs,fz,h2⟩:=CB Ho hk;rw[e,IU.out] at h2;cases h2)
end Cg
namespace IC
open Aq Af Ap Bu Kp BM Hex BD Al Mem Cg
structure OU(A:M):Prop where
 abW:(EN Aj A).length≤1000000
 yU:(EN Ab A).length≤1000000
 keys:(EY (EN Ab A)).length≤1000000
 ax2:∀ t∈Cm Aj A,t.length≤100000
 ar7:∀ t∈Cm Ab A,t.length≤100000
 anl:∀ t∈EY (EN Ab A),t.length≤100000
def mk(A:M)(roots rs:List T):List T:=(rs.filter fun r=>decide (r∈roots)).flatMap fun r=>(NG A r).1
theorem akR(A:M)(roots rs:List T)(r:T):mk A roots (rs++[r])=mk A roots rs++if r∈roots then(NG A r).1 else[]:=by
 unfold mk;rw[LJ,Nk]
 congr 1
 by_cases h:r∈roots
 ·rw[Ac h];simp[h]
 ·rw[Aa h];simp[h]
theorem aAY{K:Kind}{A:M}{k v:T}(h:CK K A k=some v):(fileOf K A (K.nm k)).isSome=true:=by
 unfold CK at h;cases hf:fileOf K A (K.nm k) with
 |none=>rw[hf] at h;cases h
 |some l=>rfl
theorem bI{A:M}(hu:Up A){r:T}(h:r∈Cm Ab A):(NG A r).1=Kl both A r:=by
 have h1:=(TB Gf hu r).1 h;obtain⟨v,hv⟩:=LM.1 h1;unfold NG;rw[Aa (fun e=>by rw[aAY hv] at e;exact absurd e.2 (by decide))];unfold Kl dV;have JK:CK both.d A r=some v:=hv;rw[hv,JK];rfl
theorem ax1{A:M}(hu:Up A)(roots:List T):∀ t∈mk A roots (Cm Ab A),t∈EY (EN Ab A):=fun t ht=>by
 unfold mk at ht;obtain⟨r,hr,ht⟩:=Nl.1 ht;have h1:=(FQ.1 hr).1;obtain⟨v,hv⟩:=LM.1 ((TB Gf hu r).1 h1);have h2:=(ek Gf hu r v).2 hv;unfold EY;refine Nl.2 ⟨(r,v),h2,?_⟩;rw[bI hu h1] at ht;unfold Kl dV at ht;have JK:CK both.d A r=some v:=hv;rw[JK] at ht;exact ht
theorem ZZ{α:Type}{a b:List α}(h:a.Sublist b)(f:α→Nat):(a.map f).sum≤(b.map f).sum:=by
 induction h with
 |slnil=>exact Ae _
 |cons x _ ih=>rw[Ce,Eo];omega
 |cons_cons x _ ih=>rw[Ce,Eo,Ce,Eo];omega
theorem ax0{A:M}(hu:Up A)(roots:List T)(k:Nat):(mk A roots ((Cm Ab A).take k)).length≤(EY (EN Ab A)).length:=by
 have h0:(mk A roots ((Cm Ab A).take k)).length≤(((Cm Ab A)).map fun r=>(NG A r).1.length).sum:=by
  unfold mk;rw[List.length_flatMap];refine Ay (ZZ (List.filter_sublist) _) (ZZ (List.take_sublist _ _) _)
 refine Ay h0 (Nat.le_of_eq ?_);have hp:(Cm Ab A).Perm ((EN Ab A).map (·.1)):=by
  refine(List.perm_ext_iff_of_nodup (Wm _) (zk hu)).2 fun t=>?_
  exact Eg _ _
 rw[(hp.map fun r=>(NG A r).1.length).sum_nat,Ko];unfold EY;rw[List.length_flatMap]
 congr 1
 refine Q3 fun p hp=>?_
 have hv:=(ek Gf hu p.1 p.2).1 hp
 show(NG A p.1).1.length=_
 have hm:p.1∈Cm Ab A:=(TB Gf hu p.1).2 (by rw[hv];rfl);rw[bI hu hm];unfold Kl dV;have JK:CK both.d A p.1=some p.2:=hv;rw[JK];rfl
theorem asc(m n:Nat)(c:T→Nat):adD (fun W=>Nv W m c n) (.func (.func 216) #[.map (some m)] #[]) (fun t=>decide (c t=0)):=
 ⟨_,_,_,rfl,enters_of func216 (by kernel_rfl) rfl,fun W t ht h=>ase h t ht⟩
theorem ayP{w:World}{base n c:Nat}{p:Addr}{l:List T}(h:Ap.Bq w base (.slice (some p) n c) l):base≤p.block:=by
 rcases h.2 with⟨e1,_⟩|⟨g,cap',cur,e1,h1,_⟩
 ·injection e1 with e1;cases e1
 ·have e2:p=⟨g,0,none⟩:=by injection e1 with e1;injection e1
  subst e2;exact Ec h rfl
theorem aAO{A:M}(hu:Up A)(t:T):t∈Bc (EY (EN Ab A))↔Used both A t:=by
 rw[Eg];unfold Used EY;rw[Nl];constructor
 ·rintro⟨p,hp,ht⟩;have hv:=(ek Gf hu p.1 p.2).1 hp;refine⟨p.1,(TB Gf hu p.1).2 (by rw[hv];rfl),?_⟩;unfold Kl dV;have JK:CK both.d A p.1=some p.2:=hv;rw[JK];exact ht
 ·rintro⟨r,hr,ht⟩;obtain⟨v,hv⟩:=LM.1 ((TB Gf hu r).1 hr);refine⟨(r,v),(ek Gf hu r v).2 hv,?_⟩;unfold Kl dV at ht;have JK:CK both.d A r=some v:=hv;rw[JK] at ht;exact ht
theorem awy{w:World}{pm pd y:Nat}{A:M}(hm:GN w pm y)(hd:Fx w pd y)(hf:Hm w y A)(Fj:OU A):
  Calls prog 153 #[.pointer (some ⟨pm,0,none⟩),.pointer (some ⟨pd,0,none⟩)] w fun e w'=>∃ v,e=.returned (.tuple #[v,.int .i64 0])∧Ap.Bq w' w.heap.size v (QP both A)∧Bw w w':=by
 have HM:=Hi hm;have HD:=Hi hd;have HF:=Hi hf;have Sn:=Hi Fj;have VN:=@run_makeMap prog;clear hm hd hf Fj
 go_in
 go_wp2_with fail;refine(azk _ _ _).mono ?_;rintro e w1⟨rfl,Jr⟩;subst Jr;go_wp2_with fail;have C8:=AV w (.map #[] 0);have AR:=Hi C8;have U0:=Hi (Nv.made w);have Gv:=Hi (aqN (HD.below C8) (HF.below C8) Sn.yU Sn.keys);have BL:=Ar w (.map #[] 0);have Dz:=Hi BL;clear C8 BL;refine Gv.mono ?_;rintro e w2⟨v2,rfl,MW,Ad⟩;obtain⟨rq,rc,rfl⟩:=Bp MW;have Ak:=bH AR Ad;have aoM:=Hi (U0.below Ad);have Ph:=Hi (aAO (A:=A) HF.up);have aeH:=Hi (show(Bc (EY (EN Ab A))).length≤1000000 from Ay (UM _) Sn.keys);have aeG:=Hi (show ∀ t∈Bc (EY (EN Ab A)),t.length≤1000000 from fun t ht=>Ay (Sn.anl t ((Eg _ _).1 ht)) (by decide))
 have adI:=Hi (show ∀ p,rq=some p→Bc (EY (EN Ab A))≠[]→p.block≠w.heap.size from fun p e hne f=>by
  subst e;have h1:=ayP MW;have h2:=Dz.out;omega)
 obtain⟨us,FE⟩:=ex (Bc (EY (EN Ab A)));rw[FE] at MW Ph aeH aeG adI ⊢;have aoH:=Hi (awI (cap:=rc) aoM (I6 MW) adI aeG (by have:=aeH.out;omega) (fun t=>AZ _));clear MW Ad Gv U0 FE;go_wp2_with fail;refine aoH.mono ?_;rintro e w3⟨⟨v3,rfl⟩,rA,Dk⟩;have AA:=Hi (Cq Ak Dk (fun i e=>Nat.le_of_eq e.symm) Ak.size);have HK:=Hi (ax3 (HM.below AA) (HF.below AA) Sn.abW);have LX:=Hi (show(Cm Aj A).length≤1000000 from by rw[sD (K:=Aj) HF.up];exact Sn.abW);have e1:(fun t=>0+us.count t)=fun t=>us.count t:=by funext t;rw[GJ]
 rw[e1] at rA;obtain⟨n9,hn9⟩:=ex (0+us.length);rw[hn9] at rA;have aoN:=Hi rA
 have R9:=Hi (show(Cm Aj A).filter (fun t=>decide (us.count t=0))=QP both A from by
  unfold QP;refine List.filter_congr fun t _=>?_
  rw[decide_eq_decide,List.count_eq_zero];exact not_congr (Ph t))
 have Oe:=Hi (asc w.heap.size n9 (fun t=>us.count t));clear rA Dk hn9 e1;go_wp2_with fail;refine HK.mono ?_;rintro e w4⟨kv,rfl,CJ,AB⟩;obtain⟨kq,kc,rfl⟩:=Bp CJ;have AU:=bH AA AB;have aiV:=aoN.below AB;have HTH:=Hi (aAo (cap:=kc) (I6 CJ) Oe (fun W hW=>aiV.below hW) (fun t ht=>Ay (Sn.ax2 t ht) (by decide)) LX.out);rw[R9.out] at HTH;clear AB CJ aiV;go_wp2_with fail;refine HTH.mono ?_;rintro e w5⟨u,rfl,MV,Bo⟩;obtain⟨uq,uc,rfl⟩:=Bp MV;have M3:=Hi (Fu MV AU.size);have Cy:=bH AU Bo;clear MV Bo;go_wp2;go_ret2;exact⟨_,rfl,M3,Cy⟩
end IC
namespace ER
open Aq Af Ap Bu Kp BM Hex BD Al Mem Cg IC
variable {w:World}{pm pd y:Nat}{A:M}
theorem o7{ops:Array Oper}{rest:List Oper}{o:Oper}{a:Act}{Q:Exit→Act→World→Prop}(PO:o.guard=none)(s x:Operand)
  (ho:o.op=.call { callee:=.builtin .append,args:=#[s,x],argTypes:=#[58,58] }){wr:World}{base n:Nat}{v:Value}{cs:List Value}(hs:a.eval s=v)(Ag:wr.ownsRow base 23 3 v n cs)(hb:base≤wr.heap.size)(hn:n≤1000000)
  {k:Int}{x1 x2:ByteArray}(hx:a.eval x=.slice (some ⟨wr.heap.size,0,none⟩) 1 1)
  (h:∀ g' cap' w1,w1.ownsRow base 23 3 (.slice (some ⟨g',0,none⟩) (n+1) cap') (n+1) (cs++[.int .u8 k,.string x1,.string x2])→(wr.alloc (.cells #[.int .u8 k,.string x1,.string x2] 23)).grownBy w1 v.ownBlock→wpList prog ops Q rest (a.put o.dst (.slice (some ⟨g',0,none⟩) (n+1) cap')) w1):
  wpList prog ops Q (o :: rest) a (wr.alloc (.cells #[.int .u8 k,.string x1,.string x2] 23)):=by
 obtain⟨i0,Bg,AX,AY,Ba⟩:=DI afg;refine wpList_append_own_at _ PO s x 58 ho base 23 i0 _ 3 40 underlying58 Bg AX AY Ba rfl (by decide) v n cs hs (Ag.alloc _) ⟨wr.heap.size,0,none⟩ 1 1 [.int .u8 k,.string x1,.string x2] hx rfl (by intro j u hj;rw[add_plain,E8];exact(Dx▸hj)) (by simp[Value.oneCell']) (by unfold maxLen;omega) (by omega) (by rw[Ar];omega) ?_;intro v' w1 hown AJ _ _;obtain⟨g',cap',rfl⟩:=ownsRow_succ hown;exact h g' cap' w1 hown AJ
def Fb(pm pd:Nat):Obj:=.cells #[.pointer (some ⟨pm,0,none⟩),.pointer (some ⟨pd,0,none⟩)] 131
theorem oC(w:World)(pm pd:Nat):(w.alloc (Fb pm pd)).cell? ⟨w.heap.size,0,none⟩=some (.pointer (some ⟨pm,0,none⟩))∧(w.alloc (Fb pm pd)).cell? ⟨w.heap.size,1,none⟩=some (.pointer (some ⟨pd,0,none⟩)):=by
 have h:=AP w (Fb pm pd);have e:Fb pm pd=.cells #[.pointer (some ⟨pm,0,none⟩),.pointer (some ⟨pd,0,none⟩)] 131:=rfl;rw[e] at h ⊢;exact⟨cr h,cr h⟩
theorem bg(K:Kind)(A:M):(CO K A).length≤A.length:=by
 unfold CO;rw[Ca];exact LK _ _
theorem yo{w0 wr:World}{N:List T}{f:T→Nat×T×T}{q:Option Addr}{c:Nat}(Bb:Bw w w0)(h:wr.ownsRow w0.heap.size 23 3 (.slice q N.length c) N.length (Gd ((N.take N.length).map f)))(hb:Bw w0 wr):
  ∃ v,Ending.returned (.slice q N.length c)=.returned v∧LQ wr w.heap.size v (N.map f)∧Bw w wr:=by
 rw[Dq] at h;refine⟨_,rfl,?_,Bb.trans (hb.mono Bb.size)⟩
 show wr.ownsRow _ _ _ _ (N.map f).length _
 rw[Ca];exact Fu h Bb.size
theorem awR(hm:GN w pm y)(hf:Hm w y A):
  Calls prog 66 #[.agg #[.pointer (some ⟨pm,0,none⟩),.pointer (some ⟨pd,0,none⟩)]] w fun e w'=>∃ v,e=.returned v∧LQ w' w.heap.size v ((CO Aj A).map fun x=>(1,x,[]))∧Bw w w':=by
 have Bb:=AV w (Fb pm pd);have AR:=Hi Bb;have O7:=Hi (awM (hm.below Bb) (hf.below Bb));have EB:(CO Aj A).length≤1000000:=Ay (bg _ _) hf.len;obtain⟨w0,ED⟩:=ex (w.alloc (Fb pm pd));have c0:w0.cell? ⟨w.heap.size,0,none⟩=some (.pointer (some ⟨pm,0,none⟩)):=by rw[←ED];exact(oC w pm pd).1
 rw[ED] at AR O7;clear hm hf Bb;generalize CO Aj A=N at*
 go_in
 unfold Fb at ED;go_wp2_with fail;refine O7.mono ?_;rintro e w2⟨v,rfl,Ag,Ad⟩;obtain⟨q,c,rfl⟩:=Bp Ag;have BU:=Hi Ag;have Ak:=Hi Ad;clear Ag Ad O7 c0 ED;go_wp2
 go_loopw [2,9] (fun s i wr=>mF w0 (.slice q N.length c) N (fun x=>(1,x,[])) s i wr) (fun _ i _=>N.length -(intOf i).toNat)
 case atStart=>exact⟨0,none,0,AZ _,rfl,rfl,by rw[I8,Kq,iK];exact E5 _ _ _ _,Ak,BU⟩
 case round=>
  obtain⟨k,cq,cc,hk,rfl,rfl,Ag,hb,G8⟩:=hrel;have Co:=Hi Ag;have HB:=Hi hb;by_cases hlt:k < N.length
  ·obtain⟨a,Cx,c0⟩:=(I6 (c:=c) G8).index c k hlt;have MC:=Hi (fun(g' cap':Nat) (w1:World) hg ho=>yt (w:=w0) (nv:=.slice q N.length c) (ov:=.slice cq k cc) (f:=fun x=>(1,x,[])) (q':=some ⟨g',0,none⟩) (cap':=cap') (w1:=w1) hlt hb Ag (AV wr (.cells #[.int .u8 1,.string (bs (N[k]'hlt)),.string (bs [])] 23)) hg ho G8);generalize N[k]=t at*;clear Ag hb G8;go_wp2_with (at_builtin;refine o7 rfl _ _ rfl rfl Co.out HB.out.size (by omega) rfl ?_;intro g' cap' w1 hown AJ;have Cz:=Hi (MC g' cap' w1 AJ hown);clear hown AJ);go_roundw
   case rel=>exact Cz.out
   case measure=>
    show N.length -((k:Int)+1).toNat < N.length -((k:Int)).toNat
    omega
  ·obtain rfl:k=N.length:=(by omega);clear Ag hb G8;go_wp2;go_ret;exact yo AR Co HB.out
theorem aAX(hm:Fx w pd y)(hf:Hm w y A):
  Calls prog 67 #[.agg #[.pointer (some ⟨pm,0,none⟩),.pointer (some ⟨pd,0,none⟩)]] w fun e w'=>∃ v,e=.returned v∧LQ w' w.heap.size v ((CO Ab A).map fun x=>(2,x,[]))∧Bw w w':=by
 have Bb:=AV w (Fb pm pd);have AR:=Hi Bb;have O7:=Hi (aqO (hm.below Bb) (hf.below Bb));have EB:(CO Ab A).length≤1000000:=Ay (bg _ _) hf.len;obtain⟨w0,ED⟩:=ex (w.alloc (Fb pm pd));have c0:w0.cell? ⟨w.heap.size,1,none⟩=some (.pointer (some ⟨pd,0,none⟩)):=by rw[←ED];exact(oC w pm pd).2
 rw[ED] at AR O7;clear hm hf Bb;generalize CO Ab A=N at*
 go_in
 unfold Fb at ED;go_wp2_with fail;refine O7.mono ?_;rintro e w2⟨v,rfl,Ag,Ad⟩;obtain⟨q,c,rfl⟩:=Bp Ag;have BU:=Hi Ag;have Ak:=Hi Ad;clear Ag Ad O7 c0 ED;go_wp2
 go_loopw [2,9] (fun s i wr=>mF w0 (.slice q N.length c) N (fun x=>(2,x,[])) s i wr) (fun _ i _=>N.length -(intOf i).toNat)
 case atStart=>exact⟨0,none,0,AZ _,rfl,rfl,by rw[I8,Kq,iK];exact E5 _ _ _ _,Ak,BU⟩
 case round=>
  obtain⟨k,cq,cc,hk,rfl,rfl,Ag,hb,G8⟩:=hrel;have Co:=Hi Ag;have HB:=Hi hb;by_cases hlt:k < N.length
  ·obtain⟨a,Cx,c0⟩:=(I6 (c:=c) G8).index c k hlt;have MC:=Hi (fun(g' cap':Nat) (w1:World) hg ho=>yt (w:=w0) (nv:=.slice q N.length c) (ov:=.slice cq k cc) (f:=fun x=>(2,x,[])) (q':=some ⟨g',0,none⟩) (cap':=cap') (w1:=w1) hlt hb Ag (AV wr (.cells #[.int .u8 2,.string (bs (N[k]'hlt)),.string (bs [])] 23)) hg ho G8);generalize N[k]=t at*;clear Ag hb G8;go_wp2_with (at_builtin;refine o7 rfl _ _ rfl rfl Co.out HB.out.size (by omega) rfl ?_;intro g' cap' w1 hown AJ;have Cz:=Hi (MC g' cap' w1 AJ hown);clear hown AJ);go_roundw
   case rel=>exact Cz.out
   case measure=>
    show N.length -((k:Int)+1).toNat < N.length -((k:Int)).toNat
    omega
  ·obtain rfl:k=N.length:=(by omega);clear Ag hb G8;go_wp2;go_ret;exact yo AR Co HB.out
theorem aku{A:M}(hu:Up A)(h:OU A):(QP both A).length≤1000000:=by
 unfold QP;refine Ay (LK _ _) ?_
 show(Cm Aj A).length≤_
 rw[sD (K:=Aj) hu];exact h.abW
theorem arW(hm:GN w pm y)(hd:Fx w pd y)(hf:Hm w y A)(Fj:OU A):
  Calls prog 69 #[.agg #[.pointer (some ⟨pm,0,none⟩),.pointer (some ⟨pd,0,none⟩)]] w fun e w'=>∃ v,e=.returned v∧LQ w' w.heap.size v ((QP both A).map fun x=>(4,[],x))∧Bw w w':=by
 have Bb:=AV w (Fb pm pd);have AR:=Hi Bb;have O7:=Hi (awy (hm.below Bb) (hd.below Bb) (hf.below Bb) Fj);have EB:(QP both A).length≤1000000:=aku hf.up Fj;obtain⟨w0,ED⟩:=ex (w.alloc (Fb pm pd));have c0:w0.cell? ⟨w.heap.size,0,none⟩=some (.pointer (some ⟨pm,0,none⟩)):=by rw[←ED];exact(oC w pm pd).1
 have c1:w0.cell? ⟨w.heap.size,1,none⟩=some (.pointer (some ⟨pd,0,none⟩)):=by rw[←ED];exact(oC w pm pd).2
 rw[ED] at AR O7;clear hm hd hf Bb Fj;generalize QP both A=N at*
 go_in
 unfold Fb at ED;go_wp2_with fail;refine O7.mono ?_;rintro e w2⟨v,rfl,Ag,Ad⟩;obtain⟨q,c,rfl⟩:=Bp Ag;have BU:=Hi Ag;have Ak:=Hi Ad;clear Ag Ad O7 c0 c1 ED;go_wp2
 go_loopw [2,17] (fun s i wr=>mF w0 (.slice q N.length c) N (fun x=>(4,[],x)) s i wr) (fun _ i _=>N.length -(intOf i).toNat)
 case atStart=>exact⟨0,none,0,AZ _,rfl,rfl,by rw[I8,Kq,iK];exact E5 _ _ _ _,Ak,BU⟩
 case round=>
  obtain⟨k,cq,cc,hk,rfl,rfl,Ag,hb,G8⟩:=hrel;have Co:=Hi Ag;have HB:=Hi hb;by_cases hlt:k < N.length
  ·obtain⟨a,Cx,c0⟩:=(I6 (c:=c) G8).index c k hlt;have MC:=Hi (fun(g' cap':Nat) (w1:World) hg ho=>yt (w:=w0) (nv:=.slice q N.length c) (ov:=.slice cq k cc) (f:=fun x=>(4,[],x)) (q':=some ⟨g',0,none⟩) (cap':=cap') (w1:=w1) hlt hb Ag (AV wr (.cells #[.int .u8 4,.string (bs []),.string (bs (N[k]'hlt))] 23)) hg ho G8);generalize N[k]=t at*;clear Ag hb G8;go_wp2_with (at_builtin;refine o7 rfl _ _ rfl rfl Co.out HB.out.size (by omega) rfl ?_;intro g' cap' w1 hown AJ;have Cz:=Hi (MC g' cap' w1 AJ hown);clear hown AJ);go_roundw
   case rel=>exact Cz.out
   case measure=>
    show N.length -((k:Int)+1).toNat < N.length -((k:Int)).toNat
    omega
  ·obtain rfl:k=N.length:=(by omega);clear Ag hb G8;go_wp2;go_ret;exact yo AR Co HB.out
def Wp(A:M)(r:T):List (Nat×T×T):=((Kl both A r).filter fun k=>(mV both A k).isNone).map fun k=>(3,r,k)
def QX(A:M)(rs:List T):List (Nat×T×T):=rs.flatMap (Wp A)
theorem adr(A:M)(rs:List T)(r:T):QX A (rs++[r])=QX A rs++Wp A r:=by unfold QX;rw[Nk];simp
theorem anW(A:M):QX A (Cm Ab A)=(Nj both A).map fun p=>(3,p.1,p.2):=by
 unfold QX Nj;rw[List.map_flatMap]
 congr 1
 funext r
 unfold Wp;rw[Ko];rfl
theorem anX{A:M}(hu:Up A){k:Nat}(hk:k < (Cm Ab A).length):(QX A ((Cm Ab A).take k)).length+(Kl both A (Cm Ab A)[k]).length≤(EY (EN Ab A)).length:=by
 have h1:=ax0 hu (Cm Ab A) (k+1);have h2:∀ rs:List T,(∀ r∈rs,r∈Cm Ab A)→(QX A rs).length≤(mk A (Cm Ab A) rs).length:=by
  intro rs
  induction rs using uE with
  |h0=>intro _;exact AZ _
  |h1 rs r ih=>
   intro h;have ih:=ih fun x hx=>h x (List.mem_append_left _ hx)
   have hr:=h r (List.mem_append_right _ (by simp));rw[adr,akR,Ac hr,Az,Az,bI hu hr];have:(Wp A r).length≤(Kl both A r).length:=by
    unfold Wp;rw[Ca];exact LK _ _
   omega
 have h3:=h2 ((Cm Ab A).take k) (fun r hr=>List.mem_of_mem_take hr);rw[CQ hk,akR,Ac (Dc hk),Az,bI hu (Dc hk)] at h1;omega
theorem atH(A:M)(k:T):(SK Aj A k).2.1=(mV both A k).isSome:=by
 unfold SK;split
 ·rename_i h
  have:fileOf Aj A (Aj.nm k)=none:=by
   cases hf:fileOf Aj A (Aj.nm k) with
   |none=>rfl
   |some l=>rw[hf] at h;exact absurd h.2 (by simp)
  show false=(CK Aj A k).isSome
  unfold CK;rw[this];rfl
 ·show _=(CK Aj A k).isSome
  cases CK Aj A k<;>rfl
theorem aAN{A:M}(hu:Up A)(Fj:OU A){r:T}(hr:r∈Cm Ab A):∀ t∈Kl both A r,t.length≤100000:=fun t ht=>by
 refine Fj.anl t (ax1 hu (Cm Ab A) t ?_);unfold mk;exact Nl.2 ⟨r,FQ.2 ⟨hr,by simpa using hr⟩,by rw[bI hu hr];exact ht⟩
def aeU(w0:World)(A:M)(rv:Value)(s i:Value)(wr:World):Prop:=
 ∃ (k n:Nat) (q:Option Addr) (c:Nat),k≤(Cm Ab A).length∧n=(QX A ((Cm Ab A).take k)).length∧i=.int .i64 (k:Int)∧s=.slice q n c∧wr.ownsRow w0.heap.size 23 3 (.slice q n c) n (Gd (QX A ((Cm Ab A).take k)))∧Bw w0 wr∧Ap.Bq wr w0.heap.size rv (Cm Ab A)
def yc(w0:World)(A:M)(r:T)(L0:List (Nat×T×T))(rv kv:Value)(R K:List T)(s i:Value)(wr:World):Prop:=
 ∃ (k n:Nat) (q:Option Addr) (c:Nat),k≤K.length∧n=(L0++((K.take k).filter fun t=>(mV both A t).isNone).map fun t=>(3,r,t)).length∧i=.int .i64 (k:Int)∧s=.slice q n c∧wr.ownsRow w0.heap.size 23 3 (.slice q n c) n (Gd (L0++((K.take k).filter fun t=>(mV both A t).isNone).map fun t=>(3,r,t)))∧Bw w0 wr∧Ap.Bq wr w0.heap.size rv R∧Ap.Bq wr w0.heap.size kv K
theorem arN{K:List T}{f:T→Bool}{k:Nat}(hk:k < K.length):(K.take (k+1)).filter f=(K.take k).filter f++if f K[k]=true then[K[k]] else[]:=tC hk
theorem aBi(hm:GN w pm y)(hd:Fx w pd y)(hf:Hm w y A)(Fj:OU A):
  Calls prog 68 #[.agg #[.pointer (some ⟨pm,0,none⟩),.pointer (some ⟨pd,0,none⟩)]] w fun e w'=>∃ v,e=.returned v∧LQ w' w.heap.size v ((Nj both A).map fun p=>(3,p.1,p.2))∧Bw w w':=by
 have Bb:=AV w (Fb pm pd);have AR:=Hi Bb;have xu:=Hi (ar8 (hd.below Bb) (hf.below Bb) Fj.yU);have Sn:=Hi Fj;have FL:=Hi hf.up;have HWA:=Hi (anW A);have La:=Hi (fun(W:World) (hW:Below (w.alloc (Fb pm pd)).heap.size (w.alloc (Fb pm pd)) W) (r:T) (hr:r.length≤1000000)=>aqU ((hd.below Bb).below hW) (((hf.below Bb).below hW).gets) r hr);have ae1:=Hi (fun(W:World) (hW:Below (w.alloc (Fb pm pd)).heap.size (w.alloc (Fb pm pd)) W) (k:T) (hk:k.length≤1000000)=>awZ ((hm.below Bb).below hW) (((hf.below Bb).below hW).gets) k hk)
 have HC:=Hi (fun(W:World) (hW:Below (w.alloc (Fb pm pd)).heap.size (w.alloc (Fb pm pd)) W)=>show W.cell? ⟨w.heap.size,0,none⟩=some (.pointer (some ⟨pm,0,none⟩))∧W.cell? ⟨w.heap.size,1,none⟩=some (.pointer (some ⟨pd,0,none⟩)) from by
  have h:=(hW.block w.heap.size (by rw[Ar];omega)).trans (AP w (Fb pm pd));unfold Fb at h;exact⟨cr h,cr h⟩)
 have VO:(Cm Ab A).length≤1000000:=by rw[sD (K:=Ab) hf.up];exact Fj.yU
 obtain⟨w0,ED⟩:=ex (w.alloc (Fb pm pd));rw[ED] at AR xu La ae1 HC;obtain⟨c0,c1⟩:=HC _ (Ah _ _);clear hm hd hf Bb Fj
 go_in
 unfold Fb at ED;go_wp2_with fail;refine xu.mono ?_;rintro e w2⟨v,rfl,Ag,Ad⟩;obtain⟨q,c,rfl⟩:=Bp Ag;have BU:=Hi Ag;have Ak:=Hi Ad;clear Ag Ad xu c0 c1 ED;go_wp2
 go_loopw [2,14] (fun s i wr=>aeU w0 A (.slice q (Cm Ab A).length c) s i wr) (fun _ i _=>(Cm Ab A).length -(intOf i).toNat)
 case atStart=>exact⟨0,0,none,0,AZ _,rfl,rfl,rfl,by rw[I8,show QX A []=[] from rfl,iK];exact E5 _ _ _ _,Ak,BU⟩
 case round=>
  obtain⟨k,n,cq,cc,hk,hn,rfl,rfl,Ag,hb,G8⟩:=hrel;have Co:=Hi Ag;have HB:=Hi hb;have Oa:=Hi G8;have HN:=Hi hn;by_cases hlt:k < (Cm Ab A).length
  ·obtain⟨a,Cx,e0⟩:=(I6 (c:=c) G8).index c k hlt;have NR:=Dc hlt;have Ns:=Hi (anX FL hlt);have Ga:=Hi (Sn.ar7 _ NR);have HUK:=Hi (aAN FL Sn NR);have Dh:=Hi (show QX A ((Cm Ab A).take (k+1))=QX A ((Cm Ab A).take k)++Wp A (Cm Ab A)[k] from by rw[CQ hlt,adr]);have WC:=Hi (bI FL NR);obtain⟨d0,d1⟩:=HC _ hb;have HG:=Hi (La _ hb (Cm Ab A)[k] (by have:=Ga.out;omega));rw[WC.out] at HG;generalize (Cm Ab A)[k]=run at*;clear Ag hb G8 hn NR WC;go_wp2_with fail;refine HG.mono ?_;rintro e w3⟨kv,rfl,CJ,Aw⟩;obtain⟨K,hK⟩:=ex (Kl both A run);have HW:=Hi (show Wp A run=(K.filter fun t=>(mV both A t).isNone).map fun t=>(3,run,t) from by rw[←hK];rfl);rw[hK] at CJ Ns HUK;obtain⟨kq,kc,rfl⟩:=Bp CJ;obtain⟨L0,hL0⟩:=ex (QX A ((Cm Ab A).take k));rw[hL0] at Co HN Ns Dh;have Lc:=Hi (Fu CJ HB.size);have AA:=bH HB Aw;have WL:=Hi (Ch Co Aw);have wT:=Hi (Ch Oa Aw);obtain⟨R,hR⟩:=ex (Cm Ab A);rw[hR] at wT;have Pf:=Hi hR
   have gZ:=Hi (show n≤1000000∧L0.length+K.length≤1000000 from by
    have h1:=HN.out;have h2:=Ns.out;have h3:=Sn.keys;omega)
   clear hK hL0 Aw CJ HG hR Co Oa d0 d1 e0 Cx;generalize (NG A run).2.1=g1;generalize (NG A run).2.2=g2;go_wp2_with fail;have hkn:K.length≤1000000:=by have:=gZ.2;omega
   go_loopw [2,28] (fun s i wr=>yc w0 A run L0 (.slice q R.length c) (.slice kq K.length kc) R K s i wr) (fun _ i _=>K.length -(intOf i).toNat)
   case atStart=>exact⟨0,n,cq,cc,AZ _,by simpa using HN.out,rfl,rfl,by simpa using WL.out,AA,wT,Lc⟩
   case round=>
    obtain⟨j,m,sq,sc,hj,hm,rfl,rfl,Ag,hb,G8,CJ⟩:=hrel;clear WL wT Lc AA;have Co:=Hi Ag;have HB:=Hi hb;have Oa:=Hi G8;have Lc:=Hi CJ;have FX:m≤1000000:=by
     have h1:=gZ.2;have h2:=LK (fun t=>(mV both A t).isNone) (K.take j);have h3:=List.length_take_le j K;rw[hm,Az,Ca];omega
    have HM:=Hi hm;by_cases aaK:j < K.length
    ·obtain⟨a,Cx,e0⟩:=(I6 (c:=kc) CJ).index kc j aaK;have CX:=Hi (arN (f:=fun t=>(mV both A t).isNone) aaK);have DX:=HUK _ (Dc aaK);have HH:=Hi (ae1 _ hb K[j] (by omega));rw[atH] at HH;obtain⟨d0,d1⟩:=HC _ hb;generalize K[j]=key at*;cases hv:(mV both A key).isSome with
     |true=>
      rw[hv] at HH
      have HS:=Hi (show(K.take (j+1)).filter (fun t=>(mV both A t).isNone)=(K.take j).filter (fun t=>(mV both A t).isNone) from by
       rw[CX.out,Aa (by rw[Option.isNone_iff_eq_none];intro e;rw[e] at hv;cases hv),En])
      clear Ag hb G8 CJ hm CX DX hv;go_wp2_with fail;refine HH.mono ?_;rintro e w4⟨rfl,AB⟩;have AU:=bH HB AB;have Cz:=Hi (show yc w0 A run L0 (.slice q R.length c) (.slice kq K.length kc) R K (.slice sq m sc) (.int .i64 ((j:Int)+1)) w4 from⟨j+1,m,sq,sc,by omega,by rw[HS.out];exact HM.out,by go_num,rfl,by rw[HS.out];exact Ch Co AB,AU,Ch Oa AB,Ch Lc AB⟩);clear AB;go_wp2;go_roundw
      case rel=>exact Cz.out
      case measure=>
       show K.length -((j:Int)+1).toNat < K.length -((j:Int)).toNat
       omega
     |false=>
      rw[hv] at HH
      have HS:=Hi (show L0++((K.take (j+1)).filter (fun t=>(mV both A t).isNone)).map (fun t=>(3,run,t))=(L0++((K.take j).filter (fun t=>(mV both A t).isNone)).map (fun t=>(3,run,t)))++[(3,run,key)] from by
       rw[CX.out,Ac (by rw[Option.isNone_iff_eq_none];cases hm:mV both A key with|none=>rfl|some v=>rw[hm] at hv;cases hv),D6,Dy];rfl)
      clear Ag hb G8 CJ hm CX DX hv;go_wp2_with fail;refine HH.mono ?_;rintro e w4⟨rfl,AB⟩;have AU:=bH HB AB;have WM:=Hi (Ch Co AB);have aoV:=Hi (Ch Oa AB);have wK:=Hi (Ch Lc AB);clear AB;go_wp2_with (at_builtin;refine o7 rfl _ _ rfl rfl WM.out AU.out.size FX rfl ?_;intro g' cap' w5 hown AJ;have Sz:=Hi hown;have P5:=Hi AJ;clear hown AJ);have C8:=AV w4 (.cells #[.int .u8 3,.string (bs run),.string (bs key)] 23)
      have Cz:=Hi (show yc w0 A run L0 (.slice q R.length c) (.slice kq K.length kc) R K (.slice (some ⟨g',0,none⟩) (m+1) cap') (.int .i64 ((j:Int)+1)) w5 from⟨j+1,m+1,some ⟨g',0,none⟩,cap',by omega,by rw[HS.out,Az,←HM.out];rfl,by go_num,rfl,by rw[HS.out,aff];exact Sz.out,
       (bT AU C8).grown P5 (Ay AU.size C8.size) (fun j hj=>Ec WM hj),acZ (Ch aoV C8) (Ch WM C8) P5,acZ (Ch wK C8) (Ch WM C8) P5⟩)
      clear C8;go_roundw
      case rel=>exact Cz.out
      case measure=>
       show K.length -((j:Int)+1).toNat < K.length -((j:Int)).toNat
       omega
    ·obtain rfl:j=K.length:=(by omega);rw[Dq] at Ag hm;rw[←HW.out,←Dh.out] at Ag hm
     have Cz:=Hi (show aeU w0 A (.slice q (Cm Ab A).length c) (.slice sq m sc) (.int .i64 ((k:Int)+1)) wr from by
      refine⟨k+1,m,sq,sc,by omega,hm,by go_num,rfl,Ag,hb,?_⟩;rw[Pf.out];exact G8)
     clear Ag hb G8 CJ hm;go_wp2;go_roundw
     case rel=>exact Cz.out
     case measure=>
      show(Cm Ab A).length -((k:Int)+1).toNat < (Cm Ab A).length -((k:Int)).toNat
      omega
  ·obtain rfl:k=(Cm Ab A).length:=(by omega);rw[Dq,HWA.out] at Ag hn
   have DT:=Hi (show LQ wr w.heap.size (.slice cq n cc) ((Nj both A).map fun p=>(3,p.1,p.2)) from by
    show wr.ownsRow _ _ _ _ _ _
    rw[←hn];exact Fu Ag AR.size)
   clear Ag hb G8 hn;go_wp2;go_ret;exact⟨_,rfl,DT,AR.trans (HB.mono AR.size)⟩
end ER
namespace ER
open Aq Af Ap Bu Kp BM Hex BD Al Mem Cg
def vw(K:World→Prop)(v:Value)(f:Nat×T×T→Bool):Prop:=
 ∃ F recv JC,v=.func (.func F) recv JC∧(∀ args w,(callFunc F args).run prog w=.ok (.enter F args) w)∧
  ∀ W p,K W→Calls prog F (recv++ #[.agg #[.int .u8 (p.1:Int),.string (bs p.2.1),.string (bs p.2.2)]]++JC) W fun e W'=>e=.returned (.bool (f p))∧Bw W W'
def UG(f:Nat×T×T→Bool)(l:List (Nat×T×T)):Int:=match l.findIdx? f with
 |some i=>(i:Int)
 |none=> -1
theorem avE{f:Nat×T×T→Bool}{l:List (Nat×T×T)}{k:Nat}(hk:k < l.length)(h:f l[k]=true)(hn:∀ j (hj:j < k),f (l[j]'(by omega))=false):UG f l=(k:Int):=by
 have:l.findIdx? f=some k:=List.findIdx?_eq_some_iff_getElem.2 ⟨hk,h,fun j hj=>by rw[hn j hj];decide⟩;unfold UG;rw[this]
theorem avD{f:Nat×T×T→Bool}{l:List (Nat×T×T)}(hn:∀ j (hj:j < l.length),f l[j]=false):UG f l= -1:=by
 have:l.findIdx? f=none:=List.findIdx?_eq_none_iff.2 fun x hx=>by
  obtain⟨i,hi,rfl⟩:=List.getElem_of_mem hx;exact hn i hi
 unfold UG;rw[this]
theorem avC(f:Nat×T×T→Bool)(l:List (Nat×T×T)):decide (0≤UG f l)=l.any f:=by
 unfold UG;cases h:l.findIdx? f with
 |none=>
  have:=List.findIdx?_eq_none_iff.1 h;have e:l.any f=false:=by simpa using this
  rw[e];rfl
 |some i=>
  obtain⟨hi,h1,_⟩:=List.findIdx?_eq_some_iff_getElem.1 h;have e:l.any f=true:=List.any_eq_true.2 ⟨_,Dc hi,h1⟩;rw[e];simp
theorem apW{w:World}{K:World→Prop}{v:Value}{f:Nat×T×T→Bool}{a:Option Addr}{l:List (Nat×T×T)}(cap:Nat)(hl:L6 w a l)(hf:vw K v f)(hK:∀ W,Bw w W→K W)(hlen:l.length≤1000000000):
  Calls prog 126 #[.slice a l.length cap,v] w fun e w'=>e=.returned (.int .i64 (UG f l))∧Bw w w':=by
 obtain⟨F,recv,JC,rfl,NL,K7⟩:=hf;have HL:=Hi hl;have HC:=Hi K7;have HK:=Hi hK;clear hl K7 hK
 go_in
 go_wp2
 go_loopw [5,8] (fun _ i wr=>∃ k:Nat,k≤l.length∧i=.int .i64 k∧Bw w wr∧∀ j (hj:j < k),(h:j < l.length)→f l[j]=false) (fun _ i _=>l.length -(intOf i).toNat)
 case atStart=>exact⟨0,AZ _,rfl,Ah _ _,fun j hj=>by omega⟩
 case round=>
  obtain⟨k,hk,rfl,hb,Cv⟩:=hrel;have DJ:=Hi Cv;have HB:=Hi hb;clear Cv;by_cases hlt:k < l.length
  ·obtain⟨q,Cx,hq,-⟩:=(HL.below hb).index cap k hlt;obtain⟨c0,c1,c2⟩:=hq.cells;have BJ:=HC wr l[k] (HK wr hb);have Sr:=Hi (show f l[k]=true→UG f l=(k:Int) from fun h=>avE hlt h (fun j hj=>DJ j hj (by omega)))
   have Dh:=Hi (show f l[k]=false→∀ j (hj:j < k+1),(h:j < l.length)→f l[j]=false from fun h j hj h'=>by
    by_cases e:j=k
    ·subst e;exact h
    ·exact DJ j (by omega) h')
   generalize l[k]=x at*;have EL:=Hi BJ;clear BJ hq hb;go_wp2_with fail;refine EL.mono ?_;rintro e w1⟨rfl,Ai⟩;have HB1:=bH HB Ai;generalize f x=s at*;clear Ai;cases s with
   |true=>
    have gQ:=Hi (Sr rfl);clear Sr Dh;go_wp2;go_ret;exact⟨by rw[gQ.out];rfl,HB1⟩
   |false=>
    have HN:=Hi (Dh rfl);clear Sr Dh;go_wp2;go_roundw
    case rel=>exact⟨k+1,by omega,by go_num,HB1,HN⟩
    case measure=>simp[intOf];omega
  ·obtain rfl:k=l.length:=(by omega);have HN:=Hi (show UG f l= -1 from avD (fun j hj=>DJ j hj hj));clear hb;go_wp2;go_ret;exact⟨by rw[HN.out];rfl,HB⟩
theorem apV{w:World}{K:World→Prop}{v:Value}{f:Nat×T×T→Bool}{a:Option Addr}{l:List (Nat×T×T)}(cap:Nat)(hl:L6 w a l)(hf:vw K v f)(hK:∀ W,Bw w W→K W)(hlen:l.length≤1000000000):
  Calls prog 48 #[.slice a l.length cap,v] w fun e w'=>e=.returned (.bool (l.any f))∧Bw w w':=by
 have HI:=Hi (apW cap hl hf hK hlen);have HE:=Hi (avC f l);clear hl hf hK;generalize UG f l=i at*
 go_in
 go_wp2_with fail;refine HI.mono ?_;rintro e w1⟨rfl,hb⟩;have HB:=Hi hb;clear hb;go_wp2;go_ret;exact⟨by rw[←HE.out];rfl,HB⟩
theorem azO(p:Nat×T×T)(w:World):Calls prog 49 #[.agg #[.int .u8 (p.1:Int),.string (bs p.2.1),.string (bs p.2.2)]] w fun e w'=>e=.returned (.bool (p.1 != 4))∧Bw w w':=by
 have hk:((p.1:Int) != 4)=(p.1 != 4):=by
  by_cases h:p.1=4
  ·rw[h];rfl
  ·have h2:¬ (p.1:Int)=4:=(by omega);rw[bne_iff_ne.2 h,bne_iff_ne.2 h2]
 obtain⟨k,x,y⟩:=p;have HB:=Hi (AV w (.cells #[.int .u8 (k:Int),.string (bs x),.string (bs y)] 23))
 go_in
 go_wp2;go_ret;exact⟨by rw[←hk];rfl,HB⟩
theorem azN:vw (fun _=>True) (.func (.func 49) #[] #[]) (fun p=>p.1 != 4):=
 ⟨_,_,_,rfl,enters_of func49 (by kernel_rfl) rfl,fun W p _=>azO p W⟩
end ER
namespace ER
open Aq Af Ap Bu Kp BM Hex BD Al Mem Cg IC
attribute [local go_sem ↓] bf
variable {w:World}{pm pd y:Nat}{A:M}
def Vv(pm pd:Nat):Value:=.agg #[.pointer (some ⟨pm,0,none⟩),.pointer (some ⟨pd,0,none⟩)]
def findF:Nat→Nat
 |0=>66
 |1=>67
 |2=>68
 |_=>69
def UL(A:M):Nat→List (Nat×T×T)
 |0=>(CO Aj A).map fun x=>(1,x,[])
 |1=>(CO Ab A).map fun x=>(2,x,[])
 |2=>(Nj both A).map fun p=>(3,p.1,p.2)
 |_=>(QP both A).map fun x=>(4,[],x)
def upTo(A:M):Nat→List (Nat×T×T)
 |0=>[]
 |j+1=>upTo A j++UL A j
theorem anu(A:M):upTo A 4=MM both A:=by
 show((([]++_)++_)++_)++_=_
 rw[Ev];rfl
theorem arO(j:Nat):∀ args w,(callFunc (findF j) args).run prog w=.ok (.enter (findF j) args) w:=by
 match j with
 |0=>exact enters_of func66 (by kernel_rfl) rfl
 |1=>exact enters_of func67 (by kernel_rfl) rfl
 |2=>exact enters_of func68 (by kernel_rfl) rfl
 |j+3=>exact enters_of func69 (by kernel_rfl) rfl
theorem arQ(j:Nat)(hm:GN w pm y)(hd:Fx w pd y)(hf:Hm w y A)(Fj:OU A):
  Calls prog (findF j) #[Vv pm pd] w fun e w'=>∃ v,e=.returned v∧LQ w' w.heap.size v (UL A j)∧Bw w w':=by
 match j with
 |0=>exact awR hm hf
 |1=>exact aAX hd hf
 |2=>exact aBi hm hd hf Fj
 |j+3=>exact arW hm hd hf Fj
theorem anJ{A:M}(hu:Up A)(Fj:OU A):(Nj both A).length≤1000000:=by
 have h:=congrArg List.length (anW A);rw[Ca] at h;rw[←h];cases hl:(Cm Ab A).length with
 |zero=>rw[JW.1 hl];exact AZ _
 |succ n=>
  have hk:n < (Cm Ab A).length:=by omega
  have h1:=anX hu hk;have h2:Cm Ab A=(Cm Ab A).take n++[(Cm Ab A)[n]]:=by
   rw[←CQ hk,I7 (by omega)]
  rw[h2,adr,Az];have h3:(Wp A (Cm Ab A)[n]).length≤(Kl both A (Cm Ab A)[n]).length:=by
   unfold Wp;rw[Ca];exact LK _ _
  have:=Fj.keys;omega
theorem aln{A:M}(hf:Hm w y A)(Fj:OU A)(j:Nat):(UL A j).length≤1000000:=by
 match j with
 |0=>exact(by rw[show(UL A 0).length=(CO Aj A).length from Ca ..];exact Ay (bg _ _) hf.len)
 |1=>exact(by rw[show(UL A 1).length=(CO Ab A).length from Ca ..];exact Ay (bg _ _) hf.len)
 |2=>exact(by rw[show(UL A 2).length=(Nj both A).length from Ca ..];exact anJ hf.up Fj)
 |j+3=>exact(by rw[show(UL A (j+3)).length=(QP both A).length from Ca ..];exact aku hf.up Fj)
theorem uR{A:M}(hf:Hm w y A)(Fj:OU A)(j:Nat):(upTo A j).length≤j*1000000:=by
 induction j with
 |zero=>exact AZ _
 |succ j ih=>
  have:=aln hf Fj j
  show(upTo A j++UL A j).length≤_
  rw[Az];omega
def aeO(w0:World)(A:M)(s i:Value)(wr:World):Prop:=
 ∃ (j n:Nat) (q:Option Addr) (c:Nat),j≤4∧n=(upTo A j).length∧i=.int .i64 (j:Int)∧s=.slice q n c∧wr.ownsRow w0.heap.size 23 3 (.slice q n c) n (Gd (upTo A j))∧Bw w0 wr
def lookO(pm pd:Nat):Obj:=.cells #[.func (.func 66) #[Vv pm pd] #[],.func (.func 67) #[Vv pm pd] #[],.func (.func 68) #[Vv pm pd] #[],.func (.func 69) #[Vv pm pd] #[]] 134
theorem ac4(hm:GN w pm y)(hd:Fx w pd y)(hf:Hm w y A)(Fj:OU A):
  Calls prog 18 #[.pointer (some ⟨pm,0,none⟩),.pointer (some ⟨pd,0,none⟩)] w fun e w'=>∃ v,e=.returned (.tuple #[v,.int .i64 0])∧LQ w' w.heap.size v (MM both A)∧Bw w w':=by
 have rz:∀ (fn:Fn) (first cap:Array Value) (w:World),(Instr.makeFunc fn first cap).run prog w=.ok (.func fn first cap) w:=fun _ _ _ _=>rfl
 have Bb:=(AV w (Fb pm pd)).trans ((AV (w.alloc (Fb pm pd)) (lookO pm pd)).mono (AV w (Fb pm pd)).size);have AR:=Hi Bb;have TR:=Hi (fun(j:Nat) (W:World) (hW:Below ((w.alloc (Fb pm pd)).alloc (lookO pm pd)).heap.size ((w.alloc (Fb pm pd)).alloc (lookO pm pd)) W)=>arQ j (hm.below (bT Bb hW)) (hd.below (bT Bb hW)) (hf.below (bT Bb hW)) Fj);have Pj:=Hi (fun j=>uR hf Fj j);have IV:=Hi (fun j=>aln hf Fj j)
 have HC:=Hi (fun(W:World) (hW:Below ((w.alloc (Fb pm pd)).alloc (lookO pm pd)).heap.size ((w.alloc (Fb pm pd)).alloc (lookO pm pd)) W) (j:Nat) (hj:j < 4)=>show W.cell? ⟨w.heap.size+1,j,none⟩=some (.func (.func (findF j)) #[Vv pm pd] #[]) from by
  have h:=(hW.block (w.alloc (Fb pm pd)).heap.size (by rw[Ar (w.alloc (Fb pm pd))];omega)).trans (AP (w.alloc (Fb pm pd)) (lookO pm pd));rw[Ar] at h;unfold lookO at h;rw[BF _ _ _ _ _ _ h]
  match j,hj with
  |0,_=>rfl
  |1,_=>rfl
  |2,_=>rfl
  |3,_=>rfl)
 obtain⟨w0,ED⟩:=ex ((w.alloc (Fb pm pd)).alloc (lookO pm pd));rw[ED] at AR TR HC;clear hm hd hf Bb Fj
 go_in
 unfold Fb lookO Vv at ED;go_wp2_with fail;clear ED
 go_loopw [4,32] (fun s i wr=>aeO w0 A s i wr) (fun _ i _=>4 -(intOf i).toNat)
 case atStart=>exact⟨0,0,none,0,by omega,rfl,rfl,rfl,by rw[show upTo A 0=[] from rfl,iK];exact E5 _ _ _ _,Ah _ _⟩
 case round=>
  obtain⟨j,n,q,c,hj,hn,rfl,rfl,Ag,hb⟩:=hrel;have Co:=Hi Ag;have HB:=Hi hb;have HN:=Hi hn;by_cases hlt:j < 4
  ·have Cx:∀ W,(Instr.indexAt 135 (.slice (some ⟨w.heap.size+1,0,none⟩) 4 4) (.int .i64 (j:Int))).run prog W=.ok (.pointer (some ⟨w.heap.size+1,j,none⟩)) W:=fun W=>by
    have h:=IM prog 135 134 underlying135 1 (by kernel_rfl) ⟨w.heap.size+1,0,none⟩ 4 4 j hlt W;rw[add_plain,Nat.mul_one] at h;exact h
   have e0:=HC _ hb j hlt;unfold Vv at e0;have hfe:=arO j;have HF:=Hi (fun(W:World) (hW:Bw w0 W)=>TR j W hW);unfold Vv at HF;have HU:=Hi (Pj j);have HP:=Hi (IV j);have Bi:=Hi (show upTo A (j+1)=upTo A j++UL A j from rfl);generalize findF j=F at*;generalize UL A j=K at*;clear Ag hb hn;go_wp2_with fail;refine(HF _ (HB.alloc HB.size _)).mono ?_;rintro e w4⟨v,rfl,Hy,AB⟩;obtain⟨q4,c4,rfl⟩:=Bp Hy;have Gh:=(AV wr (.cells #[.func (.func F) #[.agg #[.pointer (some ⟨pm,0,none⟩),.pointer (some ⟨pd,0,none⟩)]] #[]] 134)).trans (AB.mono (AV wr (.cells #[.func (.func F) #[.agg #[.pointer (some ⟨pm,0,none⟩),.pointer (some ⟨pd,0,none⟩)]] #[]] 134)).size);have AU:=bH HB Gh;have dO:=Ch Co Gh;have EB:=HN.out;obtain⟨v7,w7,QG,Ls,Im⟩:=aq4 (W:=w4) (B:=w0.heap.size) (v:=.slice q n c) (l:=upTo A j) (by show w4.ownsRow _ _ _ _ _ _;rw[←EB];exact dO) (L6.D9 Hy) (aq3 Hy) (by have:=HU.out;have:=HP.out;omega) AU.size;obtain⟨q7,c7,rfl⟩:=Bp Ls;have Cz:=Hi (show aeO w0 A (.slice q7 (upTo A j++K).length c7) (.int .i64 ((j:Int)+1)) w7 from⟨j+1,(upTo A j++K).length,q7,c7,by omega,by rw[Bi.out],by go_num,rfl,by rw[Bi.out];exact Ls,AU.grown Im AU.size (fun k hk=>Ec dO hk)⟩);clear Hy AB Gh dO EB Ls Im;go_wp2;go_roundw
   case rel=>rw[←Az];exact Cz.out
   case measure=>
    show 4 -((j:Int)+1).toNat < 4 -((j:Int)).toNat
    omega
  ·obtain rfl:j=4:=by omega
   have DT:=Hi (show LQ wr w.heap.size (.slice q n c) (MM both A) from by
    show wr.ownsRow _ _ _ _ _ _
    rw[←anu,←hn];exact Fu Ag AR.size)
   clear Ag hb hn;go_wp2;go_ret2;exact⟨_,rfl,DT,AR.trans (HB.mono AR.size)⟩
theorem axy(w:World):Calls prog 18 #[.pointer none,.pointer none] w fun e w'=>e=.returned (.tuple #[.slice none 0 0,.int .i64 1])∧w=w':=by
 go_in
 go_wp2;go_ret2;exact⟨rfl,rfl⟩
theorem afh(hf:Hm w y A)(Fj:OU A):(MM both A).length≤4000000:=by
 rw[←anu];exact uR hf Fj 4
instance (A:M):Decidable (Vr both A):=inferInstanceAs (Decidable (_∧_∧_))
theorem azP(A:M):(!(MM both A).any fun b=>b.1 != 4)=decide (Vr both A):=by
 rw[Bool.eq_iff_iff,decide_eq_true_iff,azQ];simp
theorem azR(hm:GN w pm y)(hd:Fx w pd y)(hf:Hm w y A)(Fj:OU A):
  Calls prog 14 #[.pointer (some ⟨pm,0,none⟩),.pointer (some ⟨pd,0,none⟩)] w fun e w'=>e=.returned (.bool (decide (Vr both A)))∧Bw w w':=by
 have FK:=Hi (ac4 hm hd hf Fj);have HL:=Hi (afh hf Fj);rw[←azP];generalize MM both A=L at*;clear hm hd hf Fj
 go_in
 go_wp2_with fail;refine FK.mono ?_;rintro e w1⟨v,rfl,hr,hb⟩;obtain⟨q,c,rfl⟩:=Bp hr;have HC:=Hi (apV c (L6.D9 hr) azN (fun _ _=>trivial) (by have:=HL.out;omega));have HB:=Hi hb;clear hr hb;go_wp2_with fail;refine HC.mono ?_;rintro e w2⟨rfl,Ad⟩;have Ak:=bH HB Ad;clear Ad;go_wp2;go_ret;exact⟨rfl,Ak⟩
end ER
namespace IC
open Aq Af Ap Bu Kp BM Hex BD Al Mem Cg
section
variable {w:World}{D mb db rr rb kb pm pd:Nat}{q1 q2:Option Addr}{c1 c2:Nat}{L1 L2:List T}{a b c a2 b2 c3:Int}{W W':World}
end
def CU(l:M):Nat:=(l.map fun q=>4+q.1.length+q.2.length).sum
theorem oZ(l:M):rowLen (flat l)=2+CU l:=by
 unfold rowLen CU
 induction l with
 |nil=>rfl
 |cons p l ih=>
  rw[X6,Ce,Ce,Eo,Eo,Ce,Eo];omega
theorem ayz{K:Kind}{name d:T}{l:M}(h:K.Cw name d=some l):CU l≤d.length:=by
 obtain⟨_,_,_,s,h4,h5⟩:=Nf h;unfold FI at h4;split at h4
 ·cases ht:BB (flat l) with
  |none=>rw[ht] at h4;cases h4
  |some a=>
   rw[ht] at h4;simp only[EP,Ci] at h4;have h6:=Wo ht;rw[oZ] at h6;have h7:d.length=s.length+4:=(by rw[h5];unfold A9.Fv;rw[Az,A9.BV]);rw[h7,←h4,Az];omega
 ·cases h4
theorem zi(K:Kind)(A:M):CU (EN K A)≤(A.map cost).sum:=by
 induction A with
 |nil=>exact Ae _
 |cons p A ih=>
  have e:EN K (p :: A)=(if K.ours p.1=true then(K.Cw p.1 p.2).getD [] else[])++EN K A:=rfl;rw[e];unfold CU at ih ⊢;rw[D6,OQ,Ce,Eo];have h1:((if K.ours p.1=true then(K.Cw p.1 p.2).getD [] else[]).map fun q:T×T=>4+q.1.length+q.2.length).sum≤cost p:=by
   unfold cost;split
   ·cases hr:K.Cw p.1 p.2 with
    |none=>exact AZ _
    |some l=>
     have:=ayz hr;unfold CU at this
     show((l.map fun q:T×T=>4+q.1.length+q.2.length).sum)≤_
     omega
   ·exact AZ _
  omega
theorem zb{l:M}{q:T×T}(h:q∈l):4+q.1.length+q.2.length≤CU l:=by
 induction l with
 |nil=>simp at h
 |cons x l ih=>
  show _≤(4+x.1.length+x.2.length)+CU l
  rcases BZ.1 h with rfl|h
  ·omega
  ·have:=ih h;omega
theorem oM(l:M):4*l.length+(l.map fun p=>p.2.length).sum≤CU l:=by
 induction l with
 |nil=>exact Ae _
 |cons x l ih=>
  show _≤(4+x.1.length+x.2.length)+CU l
  rw[BN,Ce,Eo];omega
theorem fw:∀ {l:List T} {a:T},BB l=some a→∀ t∈l,t.length≤65535
 |[],_,_,t,h=>by simp at h
 |x :: l,a,h,t,ht=>by
  simp only[BB] at h;cases h1:Em x with
  |none=>rw[h1] at h;cases h
  |some y=>
   cases h4:BB l with
   |none=>rw[h1,h4] at h;cases h
   |some z=>
    rcases BZ.1 ht with rfl|ht
    ·unfold Em at h1;split at h1
     ·assumption
     ·cases h1
    ·exact fw h4 t ht
theorem ayv{s:T}{l:List T}(h:Dl s=some l):∀ t∈l,t.length≤65535:=by
 have h2:=lh h;unfold Gt at h2;split at h2
 ·cases ht:BB l with
  |none=>rw[ht] at h2;cases h2
  |some a=>exact fw ht
 ·cases h2
theorem arC{w:World}{b y n N N':Nat}{bl:Nat→Prop}{A A':M}(h:fO w b y bl n N A A')(hN:N≤N'):fO w b y bl n N' A A':=by
 obtain⟨D,fp,m,x,gv,F,h1,h2,h3,h4,h5,h6,h7,h8,h9,pX⟩:=h
 exact⟨D,fp,m,x,gv,F,h1,h2,h3,h4,h5,h6,h7,h8,fun keep=>by
  obtain⟨F',D',q1,q2,q3,q4⟩:=h9 keep;exact⟨F',D',q1,q2,Ay q3 hN,q4⟩,pX⟩
theorem oU{A:M}(h:used A≤100000):OU A:=by
 have hm:=zi Aj A;have hd:=zi Ab A;have hu:(A.map cost).sum≤100000:=by unfold used at h;omega
 have Kb:=oM (EN Aj A);have Ot:=oM (EN Ab A);have hk:=aw0 (EN Ab A);refine⟨by omega,by omega,by omega,fun t ht=>?_,fun t ht=>?_,fun t ht=>?_⟩
 ·unfold Cm Eb at ht;rw[Eg] at ht;obtain⟨p,hp,rfl⟩:=BA.1 ht;have:=zb hp;omega
 ·unfold Cm Eb at ht;rw[Eg] at ht;obtain⟨p,hp,rfl⟩:=BA.1 ht;have:=zb hp;omega
 ·unfold EY at ht;obtain⟨p,hp,ht⟩:=Nl.1 ht;cases hr:Dl p.2 with
  |none=>rw[hr] at ht;simp at ht
  |some l=>
   rw[hr] at ht;exact Ay (ayv hr t ht) (by decide)
theorem aAP{F:M}(hu:Up F){k d:T}(hg:get F k=some d):used (del k F)+(8+k.length+d.length)=used F:=by
 have hm:=get_some hg;have e:(put k d F)=F:=ah (hu.put _ _) hu fun p=>by
  rw[TC hu];constructor
  ·rintro(rfl|⟨h,_⟩)
   ·exact hm
   ·exact h
  ·intro hp;by_cases e:p.1=k
   ·refine .inl ?_;have h1:=get_mem hu (show(p.1,p.2)∈F from hp);rw[e,hg] at h1;injection h1 with h1
    rw[←e,h1]
   ·exact .inr ⟨hp,e⟩
 have:=((ZT (v:=d) hu k).map cost).sum_nat;rw[e,Ce,Eo] at this;unfold used;unfold cost at this ⊢;simp only at this;omega
theorem adn:∀ {l:List Am} {F:M},Up F→(l.map (·.name)).Nodup→(∀ c∈l,∃ d,get F c.name=some d∧c.data.length≤d.length)→F8 l≤used F
 |[],F,_,_,_=>AZ _
 |c :: l,F,hu,hn,h=>by
  obtain⟨n1,n2⟩:=Ju.1 hn;obtain⟨d,h1,h2⟩:=h c (by simp)
  have h3:=adn (F:=del c.name F) (hu.del _) n2 (fun x hx=>by
   obtain⟨e,h3,h4⟩:=h x (GI _ hx);have hne:x.name≠c.name:=fun e=>n1 (show c.name∈l.map (·.name) from by rw[←e];exact Hl hx)
   exact⟨e,by rw[iX hu,Aa hne,h3],h4⟩)
  have h4:=aAP hu h1
  show(8+c.name.length+c.data.length)+F8 l≤_
  omega
theorem aBk{K:Kind}{A:M}{ks:List T}(hu:Up A)(hg:Af.Good A)(ht:There K A ks):F8 (Ff K A ks)≤used A:=by
 refine adn hu (by rw[Vx];exact Wm _) fun c hc=>?_
 unfold Ff at hc;obtain⟨name,hn,rfl⟩:=BA.1 hc;obtain⟨d,l,h1,_,_,h4,_⟩:=bC hg ht hn;exact⟨d,by rw[iO];exact h1,h4⟩
theorem ar3{K:Kind}{A:M}{ks:List T}:(Ff K A ks).length≤ks.length:=by
 unfold Ff;rw[Ca];have:=UM (ks.map K.nm);rwa[Ca] at this
theorem akY{w V V':World}{bl CP:Nat→Prop}(h1:A7 (Ig w bl) w V)(h2:A7 (Ig V CP) V V')(hb:∀ k,CP k→bl k∨w.heap.size≤k):A7 (Ig w bl) w V':=
 h1.trans h2 (fun k hk=>by
  by_cases hl:w.heap.size≤k
  ·exact .inr hl
  ·refine .inl ?_;have Oo:bl k:=(hb k hk.1).elim id (fun e=>absurd e hl);by_cases hn:Ig w bl k
   ·exact hn
   ·refine⟨Oo,fun t ht=>?_⟩;obtain⟨cs,fr,hh⟩:=ht;exact hk.2 t ⟨cs,fr,(h1.block k (by omega) hn).trans hh⟩)
theorem akW{w W V:World}{bl:Nat→Prop}(hb:Bw w W)(h:A7 (Ig W bl) W V):A7 (Ig w bl) w V:=
 akY (A7.of_below (F:=Ig w bl) hb) h (fun k hk=>.inl hk)
theorem awD{K:Kind}{A:M}:made A (Ff K A [])=A:=by
 unfold Ff;rw[Kq,ll List.Pairwise.nil];rfl
section
variable {fz:Bool}{w:World}{b y n N:Nat}{bl:Nat→Prop}{A:M}
theorem as4{pd:Nat}{q:Option Addr}{cap:Nat}{ks:List T}(h:FZ fz w b y bl n N A)(hN:N < 1000000000)(hu:used A≤100000)(hd:Fx w pd y)(hk:Dv w q ks)(hl:ks.length≤100000)(ht:There Ab A ks):
  Calls prog 73 #[.pointer (some ⟨pd,0,none⟩),.slice q ks.length cap] w fun e w'=>∃ c,e=.returned (.int .i64 c)∧∃ CP,av fz w' b y CP n (N+1) A (0,made A (Ff Ab A ks)) c∧A7 (Ig w bl) w w'∧∀ k,CP k→bl k∨w.heap.size≤k:=by
 obtain⟨u1,u2,u3,-,-⟩:=h.up;obtain⟨d1,d2,-,-⟩:=afV Gf u1 u2 u3 ht;refine aqP (Q:=fun c w'=>∃ CP,av fz w' b y CP n (N+1) A (0,made A (Ff Ab A ks)) c∧A7 (Ig w bl) w w'∧∀ k,CP k→bl k∨w.heap.size≤k) hd (pQ h) u2 hk hl ht (fun W hW=>zB (h.below hW)) (fun e w' hw=>?_) (fun W q c hW Z8=>?_)
 ·subst e;rw[awD];exact⟨bl,.inl ⟨rfl,(h.below hw).more (Nat.le_succ _)⟩,A7.of_below hw,fun k hk=>.inl hk⟩
 ·refine(zx (h.below hW) hN Z8 (Ay ar3 hl) (by have:=aBk u1 u2 ht;omega)).mono ?_;rintro e w'⟨c,rfl,CP,h1,h2,h3⟩;rw[d1,d2] at h1;exact⟨c,rfl,CP,h1,akW hW h2,fun k hk=>(h3 k hk).imp id (fun e=>Ay hW.size e)⟩
