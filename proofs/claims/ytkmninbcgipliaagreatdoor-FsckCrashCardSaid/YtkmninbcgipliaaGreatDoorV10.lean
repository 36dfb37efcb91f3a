/- AllS AllM MemK MemL MapK ChgP DropP PutP PutQ SetP RPrs RefSha RefBlk RefSum -/
import Derived.Test.YtkmninbcgipliaaGreatDoorV9
set_option maxHeartbeats 4000000
set_option maxRecDepth 100000
set_option linter.all false
namespace Go.Proofs.YtkmninbcgipliaaGreatDoor
open Tryz hiding t1 t2
namespace Al
open Go.RowKit Go.Maps
open Av Ag Ar Bt Kp BI Hex BH
structure He(w:World)(y:Nat)(A:M):Prop where
 gets:Ar.Pb w y A
 names:∀ W,Bw w W→Calls prog 28 #[.pointer (some ⟨y,0,none⟩)] W fun e w'=>∃ v,e=.returned v∧w'.ownsRow 0 9 1 v A.length (strCells (A.map (·.1)))∧Bw W w'∧∀ k,v.ownBlock=some k→W.heap.size≤k
 up:Ag.Up A
 good:Ag.Good A
 len:A.length≤1000000
theorem He.below{w w':World}{y:Nat}{A:M}(h:He w y A)(hb:Bw w w'):He w' y A:=
 ⟨Mem.XB h.gets hb,fun W hW=>h.names W (bT hb hW),h.up,h.good,h.len⟩
theorem He.ahN{w w':World}{y:Nat}{A:M}(h:He w y A)(hb:Bw w w'):Ar.Pb w' y A:=Mem.XB h.gets hb
theorem He.short{w:World}{y:Nat}{A:M}(h:He w y A)(t:T)(ht:t∈A.map (·.1)):t.length≤1000:=by
 obtain⟨x,hx,rfl⟩:=Bz.1 ht;have:=h.good x hx;unfold Fu at this;have:=(O9 this).2.1;omega
theorem qz{fz:Bool}{w:World}{b y n N:Nat}{bl:Nat→Prop}{A:M}(h:Fa fz w b y bl n N A):He w y A:=by
 have J2:=aO h.up.2.2.2.2;have I9:=Rf A;have DY:=h.up;refine⟨Ar.qN h,fun W hW=>(atD (h.below hW)).mono ?_,DY.1,DY.2.1,by omega⟩;rintro e w'⟨v,rfl,p1,_,p2,p3⟩;exact⟨v,rfl,p1,p2,p3⟩
structure Eu(et ct:TypeId)(s:Nat)(w:World)(oc B:Nat)(W:World)(n:Nat)(cs:List Value)(v:Value):Prop where
 AO:Bw w W
 low:w.heap.size≤oc
 lt:oc < B
 size:B≤W.heap.size
 box:W.heap[oc]?=some (.cells #[v] ct)
 row:W.ownsRow B et s v n cs
section
variable {et ct:TypeId}{s:Nat}{w:World}{oc B:Nat}{W W1 W2:World}{n:Nat}{cs:List Value}{v:Value}
theorem Eu.ne(h:Eu et ct s w oc B W n cs v){k:Nat}(hk:v.ownBlock=some k):k≠oc∧B≤k:=by
 have:=E9 h.row hk;have:=h.lt;omega
theorem Eu.upd{F:Nat→Prop}(h:Eu et ct s w oc B W n cs v)(hu:A7 F W W1)(hB:∀ k,F k→w.heap.size≤k)(h1:¬ F oc)(h2:∀ k,v.ownBlock=some k→¬ F k):Eu et ct s w oc B W1 n cs v:=by
 have h3:=h.low;have h4:=h.lt;have h5:=h.size;exact⟨Cy h.AO hu hB (by omega),h3,h4,Aw h5 hu.size,(hu.block oc (Ao h.box) h1).trans h.box,Bv h.row hu h2⟩
theorem Eu.below(h:Eu et ct s w oc B W n cs v)(hb:Bw W W1):Eu et ct s w oc B W1 n cs v:=h.upd (ub hb) (fun _ f=>f.elim) (fun f=>f) (fun _ _ f=>f)
theorem Eu.put(h:Eu et ct s w oc B W n cs v){k:Nat}{o o':Obj}(ho:W.heap[k]?=some o)(hc:o.isCells=false)(hk:w.heap.size≤k):Eu et ct s w oc B (W.putObj k o') n cs v:=by
 refine h.upd (F:=fun i=>i=k) (A7.of_grownBy (F:=fun i=>i=k) (grownBy_putObj' W k o') (fun i e=>by cases e;rfl)) (fun i e=>by rw[e];exact hk) (fun e=>?_) (fun i hi e=>?_)
 ·rw[←e,h.box] at ho;injection ho with ho
  subst ho;exact absurd hc (by simp[Obj.isCells])
 ·obtain⟨cs,fz,h2⟩:=Cn h.row hi;rw[e,ho] at h2;injection h2 with h2
  subst h2;exact absurd hc (by simp[Obj.isCells])
theorem Eu.raise{B':Nat}(h:Eu et ct s w oc B W 0 [] (.slice none 0 0))(h1:B≤B')(h2:B'≤W.heap.size):Eu et ct s w oc B' W 0 [] (.slice none 0 0):=
 ⟨h.AO,h.low,Hw h.lt h1,h2,h.box,DZ _ _ _ _⟩
theorem Eu.add(h:Eu et ct s w oc B W n cs v)(hb:Bw W W1)(hg:W1.grownBy W2 v.ownBlock){v':Value}{n':Nat}{cs':List Value}(ho:W2.ownsRow B et s v' n' cs'):
  Eu et ct s w oc B (W2.setCell ⟨oc,0,none⟩ v') n' cs' v':=by
 have h1:=h.below hb;have h3:=h.low;have h4:=h.lt;have h5:=h1.size;have rJ:W2.heap[oc]?=some (.cells #[v] ct):=(hg.block oc (Ao h1.box) (fun e=>(h1.ne e.symm).1 rfl)).trans h1.box;have hu:=(A7.refl (fun k=>k=oc) W2).setCell (p:=⟨oc,0,none⟩) (.inl rfl) v';refine⟨(h1.AO.grown hg (by omega) (fun k e=>by have:=(h1.ne e).2;omega)).setCell (p:=⟨oc,0,none⟩) h3 v',h3,h4,Aw (Aw h5 hg.size) hu.size,Cu W2 oc 0 _ _ v' rJ,?_⟩;refine Bv ho hu (fun g hg e=>?_);have:=E9 ho hg;omega
theorem Eu.keeps(h:Eu et ct s w oc B W n cs v)(hb:Bw W W1)(hg:W1.grownBy W2 v.ownBlock)(v':Value):KeepsOthers W (W2.setCell ⟨oc,0,none⟩ v'):=by
 have h1:=h.below hb;refine((Vd (ub hb) (fun _ _ f=>f.elim)).trans (KeepsOthers.of_grownBy hg fun j o e ho=>?_)).trans (KeepsOthers.setCell _ _ _);obtain⟨cs,fz,h2⟩:=Cn h1.row e;rw[ho] at h2;injection h2 with h2
 subst h2;rfl
theorem Eu.turned(h:Eu et ct s w oc B W n cs v)(hb:Bw W W1)(hg:W1.grownBy W2 v.ownBlock)(v':Value):A7 (fun k=>k=oc∨B≤k) W (W2.setCell ⟨oc,0,none⟩ v'):=
 ((A7.of_below (F:=fun k=>k=oc∨B≤k) hb).trans (A7.of_grownBy (F:=fun k=>k=oc∨B≤k) hg (fun k e=>.inr ((h.below hb).ne e).2)) (fun _ f=>.inl f)).setCell (p:=⟨oc,0,none⟩) (.inl (.inl rfl)) v'
end
structure M9(w:World)(oc Bx B:Nat)(pv:Value)(ty:TypeId)(q:Option Addr)(c:Nat)(L:List T)(W:World):Prop where
 AO:Bw w W
 low:w.heap.size≤oc
 lt:oc < Bx
 lt2:Bx < B
 size:B≤W.heap.size
 box:W.heap[Bx]?=some (.cells #[pv] ty)
 row:W.ownsRow 0 9 1 (.slice q L.length c) L.length (strCells L)
 own:∀ k,(Value.slice q L.length c).ownBlock=some k→oc < k∧k < B
section
variable {w W W':World}{oc Bx B:Nat}{pv:Value}{ty:TypeId}{q:Option Addr}{c:Nat}{L:List T}
theorem M9.upd{F:Nat→Prop}(h:M9 w oc Bx B pv ty q c L W)(hu:A7 F W W')(hF:∀ k,F k→k=oc∨B≤k):M9 w oc Bx B pv ty q c L W':=by
 have h1:=h.low;have h2:=h.lt;have h3:=h.lt2;have h4:=h.size;refine⟨Cy h.AO hu (fun k f=>by have:=hF k f;omega) (by omega),h1,h2,h3,Aw h4 hu.size,(hu.block Bx (Ao h.box) (fun f=>by have:=hF _ f;omega)).trans h.box,Bv h.row hu (fun k hk f=>?_),h.own⟩;have h5:=h.own k hk;have:=hF k f;omega
theorem M9.below(h:M9 w oc Bx B pv ty q c L W)(hb:Bw W W'):M9 w oc Bx B pv ty q c L W':=h.upd (ub hb) (fun _ f=>f.elim)
theorem M9.put(h:M9 w oc Bx B pv ty q c L W){k:Nat}{o o':Obj}(ho:W.heap[k]?=some o)(hc:o.isCells=false)(hk:w.heap.size≤k):M9 w oc Bx B pv ty q c L (W.putObj k o'):=by
 have h1:=h.low;have h2:=h.lt;have h3:=h.lt2;have h4:=h.size;have hu:A7 (fun i=>i=k) W (W.putObj k o'):=A7.of_grownBy (F:=fun i=>i=k) (grownBy_putObj' W k o') (fun i e=>by cases e;rfl);refine⟨Cy h.AO hu (fun i e=>by rw[e];exact hk) (by omega),h1,h2,h3,Aw h4 hu.size,Si h.box ho hc,Bv h.row hu (fun i hi e=>?_),h.own⟩;obtain⟨cs,fz,h5⟩:=Cn h.row hi;rw[e,ho] at h5;injection h5 with h5
 subst h5;exact absurd hc (by simp[Obj.isCells])
end
structure Gy where
 name:T
 row:Value
 B:Nat
 q:Option Addr
 c:Nat
structure aqz(K:Kind)(A:M)(x:Gy)(W:World):Prop where
 row:∃ q c,x.row=.slice q ((fileOf K A x.name).getD []).length c∧Bf W q ((fileOf K A x.name).getD [])∧(q=none→c=0)∧∀ p,q=some p→(fileOf K A x.name).getD []≠[]→Bb W p.block 51
theorem amq{w:World}{base c:Nat}{q:Option Addr}{l:M}(h:BJ w base (.slice q l.length c) l):∀ p,q=some p→l≠[]→Bb w p.block 51:=fun p e hne=>by
 subst e;rcases h.2 with⟨e1,e2⟩|⟨g,cap',cur,e1,_⟩
 ·exact absurd (Ld.1 e2) hne
 ·have e2:p=⟨g,0,none⟩:=by injection e1 with e1;injection e1
  subst e2;exact Cn h (by rw[e1];rfl)
def Ic(K:Kind)(A:M):List T:=(A.map (·.1)).filter K.ours
def qp(x:Gy):Array Value:=#[.string (bs x.name),x.row]
structure Xi(w:World)(oc:Nat)(J:Nat→List T→World→Prop):Prop where
 below:∀ B ks W W',J B ks W→Bw W W'→J B ks W'
 raise:∀ B B' W,J B [] W→B≤B'→B'≤W.heap.size→J B' [] W
 put:∀ B ks W k o o',J B ks W→W.heap[k]?=some o→o.isCells=false→w.heap.size≤k→J B ks (W.putObj k o')
def Oa(w:World)(oc Bx:Nat)(pv:Value)(ty:TypeId)(K:Kind)(A:M)(J:Nat→List T→World→Prop)(xs:List Gy)(W:World):Prop:=
 (xs=[]∧Bw w W∧w.heap.size≤oc∧oc < Bx∧W.heap[Bx]?=some (.cells #[pv] ty)∧∃ B,B≤W.heap.size∧J B [] W)∨
 ∃ B q c,M9 w oc Bx B pv ty q c (A.map (·.1)) W∧(∀ x∈xs,x.B=B∧x.q=q∧x.c=c)∧(∃ ts,xs.map (·.name)++ts=Ic K A)∧J B (xs.map (·.name)) W
def U3(w:World)(oc Bx:Nat)(pv:Value)(ty:TypeId)(K:Kind)(A:M)(J:Nat→List T→World→Prop)(xs:List Gy)(x:Gy)(W:World):Prop:=
 M9 w oc Bx x.B pv ty x.q x.c (A.map (·.1)) W∧(∀ z∈xs,z.B=x.B∧z.q=x.q∧z.c=x.c)∧(∃ ts,xs.map (·.name)++x.name :: ts=Ic K A)∧J x.B (xs.map (·.name)) W∧aqz K A x W
theorem az6{W:World}{q:Option Addr}{l:M}(h:Bf W q l){k:Nat}{o o':Obj}(ho:W.heap[k]?=some o)(hc:o.isCells=false):Bf (W.putObj k o') q l:=fun i hi=>by
 obtain⟨p,e,hp⟩:=h i hi;exact⟨p,e,zu hp.key ho hc,zu hp.val ho hc⟩
section
variable {w:World}{oc Bx:Nat}{pv:Value}{ty:TypeId}{K:Kind}{A:M}{J:Nat→List T→World→Prop}
theorem jb(hJ:Xi w oc J){B0:Nat}(hB:w.heap.size≤B0)(xs:List Gy):MV B0 (Oa w oc Bx pv ty K A J xs):=by
 constructor
 ·intro V k o o' hk h ho hc;rcases h with⟨h1,h2,h3,h4,h5,B,h6,h7⟩|⟨B,q,c,h1,hg,h2,h3⟩
  ·have hu:A7 (fun i=>i=k) V (V.putObj k o'):=A7.of_grownBy (F:=fun i=>i=k) (grownBy_putObj' V k o') (fun i e=>by cases e;rfl);refine .inl ⟨h1,Cy h2 hu (fun i e=>by rw[e];omega) h2.size,h3,h4,Si h5 ho hc,B,Aw h6 hu.size,hJ.put _ _ _ _ _ _ h7 ho hc (by omega)⟩
  ·exact .inr ⟨B,q,c,h1.put ho hc (by omega),hg,h2,hJ.put _ _ _ _ _ _ h3 ho hc (by omega)⟩
 ·intro V o h;have hb:=AU V o;rcases h with⟨h1,h2,h3,h4,h5,B,h6,h7⟩|⟨B,q,c,h1,hg,h2,h3⟩
  ·exact .inl ⟨h1,h2.trans (hb.mono h2.size),h3,h4,(hb.block _ (Ao h5)).trans h5,B,Aw h6 hb.size,hJ.below _ _ _ _ h7 hb⟩
  ·exact .inr ⟨B,q,c,h1.below hb,hg,h2,hJ.below _ _ _ _ h3 hb⟩
theorem jd(hJ:Xi w oc J){B0:Nat}(hB:w.heap.size≤B0)(xs:List Gy)(x:Gy):MV B0 (U3 w oc Bx pv ty K A J xs x):=by
 constructor
 ·rintro V k o o' hk ⟨h1,hg,h2,h3,⟨q2,c2,e,hp,hq,QR⟩⟩ ho hc
  exact⟨h1.put ho hc (by omega),hg,h2,hJ.put _ _ _ _ _ _ h3 ho hc (by omega),⟨q2,c2,e,az6 hp ho hc,hq,fun p e1 e2=>by
   obtain⟨cs,fr,hb⟩:=QR p e1 e2
   exact⟨cs,fr,by
    rw[World.putObj_heap_other (fun e=>?_)]
    ·exact hb
    ·subst e;rw[hb] at ho;injection ho with ho
     subst ho;cases hc⟩⟩⟩
 ·rintro V o ⟨h1,hg,h2,h3,⟨q2,c2,e,hp,hq,QR⟩⟩;have hb:=AU V o
  exact⟨h1.below hb,hg,h2,hJ.below _ _ _ _ h3 hb,⟨q2,c2,e,hp.below hb,hq,fun p e1 e2=>by
   obtain⟨cs,fr,Ac⟩:=QR p e1 e2;exact⟨cs,fr,(hb.block _ (Ao Ac)).trans Ac⟩⟩⟩
theorem je{xs:List Gy}{x:Gy}{W W':World}(h:M9 w oc Bx x.B pv ty x.q x.c (A.map (·.1)) W)(hg:∀ z∈xs,z.B=x.B∧z.q=x.q∧z.c=x.c)(hs:∃ ts,xs.map (·.name)++x.name :: ts=Ic K A)(hu:A7 (fun k=>k=oc∨x.B≤k) W W')(hj:J x.B (xs.map (·.name)++[x.name]) W'):Oa w oc Bx pv ty K A J (xs++[x]) W':=by
 obtain⟨ts,hs⟩:=hs;refine .inr ⟨x.B,x.q,x.c,h.upd hu (fun _ f=>f),fun z hz=>?_,⟨ts,?_⟩,?_⟩
 ·rcases Eh.1 hz with e|e
  ·exact hg z e
  ·rw[FJ.1 e];exact⟨rfl,rfl,rfl⟩
 ·rw[CK,Dz,←hs];rfl
 ·rw[CK];exact hj
end
end Al
namespace Mem
open Go.RowKit Go.Maps
open Av Ag Ar Bt Kp BI Hex BH Al
theorem uG{L:List T}{f:T→Bool}{k:Nat}(hk:k < L.length):(L.take (k+1)).filter f=(L.take k).filter f++(if f L[k]=true then[L[k]] else[]):=by
 rw[Cx hk,M7]
 congr 1
 by_cases h:f L[k]=true<;>simp[h]
theorem ah3{L:List T}{f:T→Bool}{k:Nat}(hk:k < L.length)(h:f L[k]=true):(L.take k).filter f++L[k] :: (L.drop (k+1)).filter f=L.filter f:=by
 conv=>rhs;rw[←MK (k+1) L,M7,uG hk,Ad h]
 simp
def nN(w:World)(oc Bx B:Nat)(pv:Value)(ty:TypeId)(q:Option Addr)(c:Nat)(K:Kind)(A:M)(J:Nat→List T→World→Prop)(Bk:World→Prop)(i:Value)(wr:World):Prop:=
 ∃ (k:Nat) (xs:List Gy),k≤A.length∧i=.int .i64 k∧M9 w oc Bx B pv ty q c (A.map (·.1)) wr∧(∀ z∈xs,z.B=B∧z.q=q∧z.c=c)∧xs.map (·.name)=((A.map (·.1)).take k).filter K.ours∧J B (xs.map (·.name)) wr∧Bk wr
theorem alB(n:Nat)(hn:1≤n){w:World}{p y:Nat}{A:M}(hm:Gi w p y)(hf:He w y A)(oc Bx:Nat){J:Nat→List T→World→Prop}(hJ:Xi w oc J)(w1:World):
  Xk n prog 198 #[.pointer (some ⟨Bx,0,none⟩)] qp (Oa w oc Bx (.pointer (some ⟨p,0,none⟩)) 43 Ah A J) (U3 w oc Bx (.pointer (some ⟨p,0,none⟩)) 43 Ah A J) (fun xs=>xs.map (·.name)=Ic Ah A) w1:=by
 intro l Bk W UE hY hW h0 Kc;have h00:Bw w W∧w.heap.size≤oc∧oc < Bx∧W.heap[Bx]?=some (.cells #[.pointer (some ⟨p,0,none⟩)] 43)∧∃ B,B≤W.heap.size∧J B [] W:=by
  rcases h0 with⟨-,h⟩|⟨B0,q0,c0,g1,-,g2,g3⟩
  ·exact h
  ·exact⟨g1.AO,g1.low,g1.lt,g1.box,B0,g1.size,g3⟩
 obtain⟨g1,g2,g3,g4,B0,g5,g6⟩:=h00;clear h0;have LF:W.cell? ⟨Bx,0,none⟩=some (.pointer (some ⟨p,0,none⟩)):=cr g4;have UX:=(hm.below g1).cell;have Ju:=Hi (hf.names W g1);have G1:=Hi g1;have G2:=Hi g2;have G3:=Hi g3;have G4:=Hi g4;have G5:=Hi g5;have G6:=Hi g6;have X5:=Hi Kc;have Rq:=Hi UE;have HJ:=Hi hJ;have HM:=Hi hm;have HF:=Hi hf;have hlen:=hf.len;clear g1 g2 g3 g4 g5 g6 Kc UE hJ hm hf;refine callsIn_of_wp func198 rfl trivial ?_ rfl;simp only[ntmps198,Jt,BG,Ht,Nat.reduceAdd,Nat.reduceSub,La,Lb,Lf,Lc,Ei,Gt]
 gi_wp2
 refine⟨trivial,(Dr.2 Ju).mono ?_⟩;rintro e w2⟨v,rfl,Af,Ac,hown⟩;have Ak:=bH G1 Ac;have jY:Bk w2:=Rq _ _ X5 (Vd (ub Ac) (fun _ _ f=>f.elim));have QN:J w2.heap.size [] w2:=HJ.raise _ _ _ (HJ.below _ _ _ _ G6 Ac) (Aw G5 Ac.size) (Ae _);obtain⟨q,c,rfl⟩:∃ q c,v=.slice q (A.map (·.1)).length c:=by
  rw[BP];exact Bo Af
 have XJ:M9 w oc Bx w2.heap.size (.pointer (some ⟨p,0,none⟩)) 43 q c (A.map (·.1)) w2:=⟨Ak,G2,G3,Hw (Ao G4) Ac.size,Ae _,(Ac.block _ (Ao G4)).trans G4,by rw[BP] at Af ⊢;exact Af,fun k hk=>⟨Hw (Nat.lt_trans G3 (Ao G4)) (hown k hk),by
  obtain⟨cs,fz,h⟩:=Cn Af hk;exact Ao h⟩⟩
 have SC:=Hi XJ;have YR:=Hi QN;have il:=Hi jY;generalize w2.heap.size=B at*;clear XJ QN jY Af Ac hown Ju G1 G2 G3 G4 G5 G6 X5;have YW:=Hi (show ∀ t∈A.map (·.1),t.length≤1000 from fun t ht=>HF.short t ht);have El:((A.map (·.1)).length:Int)=(A.length:Int):=by rw[BP]
 gi_wp2
 gi_loopw [16] (fun i wr=>nN w oc Bx B (.pointer (some ⟨p,0,none⟩)) 43 q c Ah A J Bk i wr) (fun i _=>A.length -(intOf i).toNat)
 case atStart=>exact⟨0,[],AV _,rfl,SC,fun z hz=>by simp at hz,rfl,YR,il⟩
 case round=>
  obtain⟨k,xs,hk,rfl,h1,kI,h2,h3,h4⟩:=hrel;have YP:=Hi kI;have H1:=Hi h1;have H2:=Hi h2;have H3:=Hi h3;have H4:=Hi h4;clear h2 h3 h4 kI SC YR il;by_cases hlt:k < A.length
  ·have Tz:k < (A.map (·.1)).length:=(by rw[BP];exact hlt);obtain⟨a,Cs,c0⟩:=(Hr (c:=c) h1.row).index c k Tz;simp only[BP] at Cs;have Jm:∀ t∈A.map (·.1),t.length≤1000:=YW.out;have KX:=Jm _ (CQ Tz);have Cv:=Hi (uG (f:=Ah.ours) Tz);have SV:=Hi (ah3 (f:=Ah.ours) Tz);generalize (A.map (·.1))[k]=name at*;have HO:=Hi (aya name wr (by omega));clear Jm;have Zw:wr.cell? ⟨Bx,0,none⟩=some (.pointer (some ⟨p,0,none⟩)):=cr h1.box;have PI:=h1.AO;have AR:=Hi PI;clear h1 PI
   gi_wp2
   refine⟨trivial,(Dr.2 HO).mono ?_⟩;rintro e w3⟨rfl,Ap⟩;have aaW:w3.cell? ⟨Bx,0,none⟩=some (.pointer (some ⟨p,0,none⟩)):=(Ap.cell (Cr Zw)).trans Zw;have Jw:=Hi (H1.below Ap);have iN:=Hi (HJ.below _ _ _ _ H3 Ap);have Oe:=Hi (Rq _ _ H4 (Vd (ub Ap) (fun _ _ f=>f.elim)));clear Ap Cs c0 HO Zw;cases TC:Ah.ours name with
   |false=>
    have HX:=Hi (show xs.map (·.name)=((A.map (·.1)).take (k+1)).filter Ah.ours from by rw[Cv.out,TC,H2.out];simp);clear Cv SV TC
    gi_wp2
    go_roundw
    case rel=>exact⟨k+1,xs,by omega,by go_num,Jw,YP,HX,iN,Oe⟩
    case measure=>
     show A.length -((k:Int)+1).toNat < A.length -((k:Int)).toNat
     omega
   |true=>
    have HX:=Hi (show xs.map (·.name)++[name]=((A.map (·.1)).take (k+1)).filter Ah.ours from by rw[Cv.out,TC,H2.out];simp);have yt:=Hi (show xs.map (·.name)++name :: ((A.map (·.1)).drop (k+1)).filter Ah.ours=Ic Ah A from by rw[H2.out];exact SV TC);have FT:=Hi (acF (HM.below (Jw.AO)) (HF.ahN Jw.AO) name KX);clear Cv SV TC
    gi_wp2
    refine⟨trivial,(Dr.2 FT).mono ?_⟩;rintro e w4⟨q2,c2,rfl,Af,Hl,AB⟩;have Uj:=Hi (Jw.below AB);have xM:=Hi (HJ.below _ _ _ _ iN AB);have bC:=Hi (Rq _ _ Oe (Vd (ub AB) (fun _ _ f=>f.elim)));obtain⟨x,Ho,FN,TM,WC,WB⟩:∃ x:Gy,x.name=name∧x.row=.slice q2 ((fileOf Ah A name).getD []).length c2∧x.B=B∧x.q=q∧x.c=c:=⟨⟨name,_,B,q,c⟩,rfl,rfl,rfl,rfl,rfl⟩;have XW:U3 w oc Bx (.pointer (some ⟨p,0,none⟩)) 43 Ah A J xs x w4:=⟨by rw[TM,WC,WB];exact Uj.out,by rw[TM,WC,WB];exact YP.out,⟨_,by rw[Ho];exact yt.out⟩,by rw[TM];exact xM.out,⟨q2,c2,by rw[Ho];exact FN,by rw[Ho];exact Bf.CX Af,Hl,by rw[Ho];exact amq Af⟩⟩;obtain⟨fn,tmps,assign,body,hy,hR⟩:=hY xs _ w4 XW bC.out;have HR:=Hi hR;unfold qp at hy;rw[Ho,FN] at hy;have yA:=Hi (show(xs++[x]).map (·.name)=((A.map (·.1)).take (k+1)).filter Ah.ours from by rw[CK,List.map_singleton,Ho];exact HX.out);have yE:=Hi (show x.B=B∧x.q=q∧x.c=c from⟨TM,WC,WB⟩);have ja:=Hi (show x∈xs++[x] from by simp);generalize (xs++[x])=xs2 at*;clear Ho FN TM WC WB hR XW Af AB aaW;generalize ((fileOf Ah A name).getD []).length=ln at*
    gi_wp2
    refine HR.mono ?_;rintro e w5⟨rfl,h5,h6⟩
    have CF:=Hi (show nN w oc Bx B (.pointer (some ⟨p,0,none⟩)) 43 q c Ah A J Bk (.int .i64 ((k:Int)+1)) w5 from by
     rcases h5 with⟨e,-⟩|⟨B',q',c',k1,k2,k3,k4⟩
     ·have:=ja.out;rw[e] at this;simp at this
     ·obtain⟨e1,e2,e3⟩:=k2 _ ja;obtain⟨f1,f2,f3⟩:=yE.out;obtain rfl:B'=B:=e1.symm.trans f1;obtain rfl:q'=q:=e2.symm.trans f2;obtain rfl:c'=c:=e3.symm.trans f3;exact⟨k+1,xs2,by omega,by go_num,k1,k2,yA,k4,h6⟩)
    clear h5 h6 hy HR
    gi_wp2
    go_roundw
    case rel=>exact CF.out
    case measure=>
     show A.length -((k:Int)+1).toNat < A.length -((k:Int)).toNat
     omega
  ·obtain rfl:k=A.length:=by omega
   have HE:=Hi (show xs.map (·.name)=Ic Ah A from by
    rw[H2.out,Gu (by rw[BP];exact Ae _)];rfl)
   clear h1
   gi_wp2
   go_end0
   exact⟨⟨_,rfl⟩,xs,HE,.inr ⟨B,q,c,H1,YP,⟨[],by rw[Ea,HE.out]⟩,H3⟩,H4.out⟩
end Mem
namespace Mem
open Go.RowKit Go.Maps
open Av Ag Ar Bt Kp BI Hex BH Al
attribute [local go_sem] O8
attribute [local go_sem ↓] cz
theorem adZ{α:Type}{P:Program}{n:Nat}{g:Operand}{q1 q2 s:Nat}{assign body:Code}{Q:Exit→Act→World→Prop}{a:Act}{w:World}(h1:1≤n)
  {gf:Nat}{lb:Array Value}(hg:a.eval g=.func (.func gf) #[] lb)(eg:∀ args w,(callFunc gf args).run P w=.ok (.enter gf args) w){e1 e2:α→Value}
  {Ia:List α→World→Prop}{Iy:List α→α→World→Prop}{S:List α→Prop}(UF:∀ xs,MV w.heap.size (Ia xs))(Zo:∀ xs x,MV w.heap.size (Iy xs x))
  (LV:Xk (n -1) P gf lb (fun x=>#[e1 x,e2 x]) Ia Iy S w)(h0:Ia [] w)
  (Zt:∀ (l:Nat) (x:α) (W:World) (K:Act→World→Prop),K { tmps:=((a.tmps.setIfInBounds q1 (e1 x)).setIfInBounds q2 (e2 x)).setIfInBounds s (e2 x),defers:=[] } W→
   assign.wpIn (Fence.wide.inRound l) (n -1 -1) P (Exit.then K (fun _ _ _=>False)) { tmps:=(a.tmps.setIfInBounds q1 (e1 x)).setIfInBounds q2 (e2 x),defers:=[] } W)
  (Zu:∀ (l:Nat) (pre:List α) (x:α) (W:World),Iy pre x W→body.wpIn (Fence.wide.inRound l) (n -1 -1) P (vU Ia (pre++[x]) W) { tmps:=((a.tmps.setIfInBounds q1 (e1 x)).setIfInBounds q2 (e2 x)).setIfInBounds s (e2 x),defers:=[] } W)
  (RJ:∀ (D:Nat) (xs:List α) (W:World),w.heap.size≤D→S xs→Ia xs W→W.heap[D]?=some (.deferred (some []))→Q .normal { a with defers:={ target:=.collected D,args:=#[] } :: a.defers } W):
  (Code.rangeFunc g #[q1,q2] assign body).wpIn Fence.wide n P Q a w:=
 wL h1 hg eg (fun _=>rfl) UF Zo LV h0 (fun x=>{ tmps:=((a.tmps.setIfInBounds q1 (e1 x)).setIfInBounds q2 (e2 x)).setIfInBounds s (e2 x),defers:=[] }) (fun l x W K hK=>by
  have hz:(#[q1,q2].zip #[e1 x,e2 x])=#[(q1,e1 x),(q2,e2 x)]:=by simp
  rw[hz];exact Zt l x W K hK) Zu RJ
theorem az5{W:World}{B n:Nat}{v:Value}{l k:M}(h:W.ownsRow B 51 2 v n (Dm l)){q:Option Addr}{cap:Nat}(hk:Bf W q k)(hq:q=none→cap=0)(hn:n+k.length≤1000000000)(hb:B≤W.heap.size):
  ∃ v' w2,(VQ #[30,30] 30 #[v,.slice q k.length cap]).run prog W=.ok v' w2∧w2.ownsRow B 51 2 v' (n+k.length) (Dm (l++k))∧W.grownBy w2 v.ownBlock:=by
 obtain⟨i0,Bl,AY,Ba,Be⟩:=DC Rb;cases q with
 |none=>
  obtain rfl:k=[]:=by
   cases k with
   |nil=>rfl
   |cons y k=>
    obtain⟨p,hp,_⟩:=hk 0 (by simp);cases hp
  rw[hq rfl];refine⟨v,W,run_append_owned_none (P:=prog) (w:=W) B 30 30 51 i0 2 underlying30 Bl v n (Dm l) h,?_,World.grownBy.refl W _⟩;rw[Ea];exact h
 |some ad=>
  obtain⟨v',w2,h1,h2,h3,_,_⟩:=run_append_own_at (P:=prog) W B 30 30 51 i0 _ 2 32 underlying30 Bl AY Ba Be rfl (by decide) v n (Dm l) h ad k.length cap (Dm k) (dw k) hk.cells (agX k) (by unfold maxLen;omega) (by omega) hb;exact⟨v',w2,h1,by rw[agW];exact h2,h3⟩
def JR(K:Kind)(A:M)(ks:List T):M:=ks.flatMap fun t=>(fileOf K A t).getD []
theorem mK(K:Kind)(A:M)(ks:List T)(t:T):JR K A (ks++[t])=JR K A ks++(fileOf K A t).getD []:=by
 unfold JR;rw[MJ];simp
theorem vD{K:Kind}{A:M}(hu:Up A):JR K A (Ic K A)=EG K A:=by
 unfold JR Ic EG
 suffices ∀ L:M,(∀ p∈L,p∈A)→(((L.map (·.1)).filter K.ours).flatMap fun t=>(fileOf K A t).getD [])=L.flatMap fun p=>if K.ours p.1=true then(K.CB p.1 p.2).getD [] else[] from this A fun p h=>h
 intro L
 induction L with
 |nil=>exact fun _=>rfl
 |cons p L ih=>
  intro h;have e:(fileOf K A p.1).getD []=(K.CB p.1 p.2).getD []:=by
   unfold fileOf;rw[get_mem hu (show(p.1,p.2)∈A from h p (by simp))];rfl
  rw[Ca,List.filter_cons,Qg,←ih fun x hx=>h x (F9 _ hx)];by_cases ho:K.ours p.1=true
  ·rw[Ad ho,Ad ho,Qg,e]
  ·rw[Ab ho,Ab ho,Ei]
theorem anc{K:Kind}{A:M}{ks ts:List T}:(JR K A ks).length≤(JR K A (ks++ts)).length:=by
 unfold JR;rw[MJ,AA];omega
theorem jc{w:World}{oc Bx:Nat}{pv:Value}{ty:TypeId}{K:Kind}{A:M}{J:Nat→List T→World→Prop}{xs:List Gy}{W:World}(h:Oa w oc Bx pv ty K A J xs W):∃ B,J B (xs.map (·.name)) W:=by
 rcases h with⟨rfl,-,-,-,-,B,-,h⟩|⟨B,q,c,-,-,-,h⟩
 ·exact⟨B,h⟩
 ·exact⟨B,h⟩
def JP(K:Kind)(A:M)(w:World)(oc B:Nat)(ks:List T)(W:World):Prop:=
 ∃ v,Eu 51 30 2 w oc B W (JR K A ks).length (Dm (JR K A ks)) v∧(ks=[]→v=.slice none 0 0)
theorem ach(K:Kind)(A:M)(w:World)(oc:Nat):Xi w oc (JP K A w oc) where
 below:=fun B ks W W' ⟨v,h1,h2⟩ hb=>⟨v,h1.below hb,h2⟩
 raise:=fun B B' W ⟨v,h1,h2⟩ hb hs=>by
  have e:=h2 rfl;subst e;have e2:JR K A []=[]:=rfl;rw[e2,QC] at h1;exact⟨_,by rw[e2,QC];exact Eu.raise h1 hb hs,fun _=>rfl⟩
 put:=fun B ks W k o o' ⟨v,h1,h2⟩ ho hc hk=>⟨v,h1.put ho hc hk,h2⟩
theorem alC(p:Nat)(w:World):
  Calls prog 121 #[.pointer (some ⟨p,0,none⟩)] w fun e w'=>e=.returned (.func (.func 198) #[] #[.pointer (some ⟨w.heap.size,0,none⟩)])∧w'=w.alloc (.cells #[.pointer (some ⟨p,0,none⟩)] 43):=by
 go_in
 go_wp2;go_ret;exact⟨rfl,rfl⟩
theorem alT{w:World}{p y:Nat}{A:M}(hm:Gi w p y)(hf:He w y A)(hl:(EG Ah A).length≤1000000):
  Calls prog 45 #[.pointer (some ⟨p,0,none⟩)] w fun e w'=>∃ v,e=.returned v∧Ar.Bq w' w.heap.size v (Bn Ah A)∧Bw w w':=by
 refine(Dr (n:=3)).1 ?_;have NW:prog.follows .mixedOrders=true:=by kernel_rfl
 have HM:=Hi hm;have HF:=Hi hf;have HE:=Hi (vD (K:=Ah) hf.up);have HL:=Hi hl;clear hm hf hl;refine callsIn_of_wp_marks func45 rfl trivial ?_ rfl;simp only[ntmps45,Jt,BG,Ht,Nat.reduceAdd,Nat.reduceSub,La,Lb,Lf,Lc,Ei,Gt]
 gi_wp2
 have Bg:=AU w (.cells #[.slice none 0 0] 30);have Jn:Eu 51 30 2 w w.heap.size (w.heap.size+1) (w.alloc (.cells #[.slice none 0 0] 30)) 0 [] (.slice none 0 0):=⟨Bg,Ae _,Nat.lt_succ_self _,by rw[Ay];exact Ae _,AQ w _,DZ _ _ _ _⟩;have Pm:=Hi Jn;refine⟨trivial,(Dr.2 (alC p _)).mono ?_⟩;rintro e w2⟨rfl,LX⟩;subst LX
 gi_wp2
 have ED:=Hi (AQ (w.alloc (.cells #[.slice none 0 0] 30)) (.cells #[.pointer (some ⟨p,0,none⟩)] 43));have Ac:=AU (w.alloc (.cells #[.slice none 0 0] 30)) (.cells #[.pointer (some ⟨p,0,none⟩)] 43);have D5:=Hi (Pm.below Ac);have DX:=Hi (Ay w (.cells #[.slice none 0 0] 30));obtain⟨Bx,Iq⟩:=ex ((w.alloc (.cells #[.slice none 0 0] 30)).heap.size);rw[Iq] at ED DX;rw[show w.heap.size+1=Bx from DX.symm];obtain⟨U,hU⟩:=ex ((w.alloc (.cells #[.slice none 0 0] 30)).alloc (.cells #[.pointer (some ⟨p,0,none⟩)] 43));rw[hU] at ED D5 ⊢;clear Bg Ac Jn Pm Iq hU;refine adZ (s:=5) (by omega) (gf:=198) (lb:=#[.pointer (some ⟨Bx,0,none⟩)]) rfl (enters_of func198 (by kernel_rfl) rfl) (e1:=fun x:Gy=>.string (bs x.name)) (e2:=fun x:Gy=>x.row)
  (Ia:=Oa w w.heap.size Bx (.pointer (some ⟨p,0,none⟩)) 43 Ah A (JP Ah A w w.heap.size)) (Iy:=U3 w w.heap.size Bx (.pointer (some ⟨p,0,none⟩)) 43 Ah A (JP Ah A w w.heap.size))
  (fun xs=>jb (ach _ _ _ _) D5.AO.size xs) (fun xs x=>jd (ach _ _ _ _) D5.AO.size xs x)
  (alB 2 (by omega) HM HF w.heap.size Bx (ach _ _ _ _) U) (.inl ⟨rfl,D5.AO,Ae _,by have:=DX.out;omega,ED,w.heap.size+1,D5.size,.slice none 0 0,by rw[show JR Ah A []=[] from rfl,QC];exact D5.out,fun _=>rfl⟩)
  ?assign ?body ?done
 case assign=>
  intro l x W K hK;simp only[np] at hK ⊢
  gi_wp2
  exact hK
 case body=>
  intro l2 pre x W hy;obtain⟨hS,hG,hT,⟨v,hO,-⟩,⟨q2,c2,FN,hP,DJ,-⟩⟩:=hy;have hlen:(JR Ah A (pre.map (·.name))).length+((fileOf Ah A x.name).getD []).length≤1000000:=by
   obtain⟨ts,J3⟩:=hT;have h1:=anc (K:=Ah) (A:=A) (ks:=pre.map (·.name)++[x.name]) (ts:=ts);rw[Dz,List.singleton_append,J3,HE.out,mK,AA] at h1;have:=HL.out;omega
  obtain⟨v7,w7,QT,LP,Ir⟩:=az5 (W:=W) hO.row hP DJ (by omega) hO.size;obtain⟨qv,cv,rfl,-,-⟩:=FH hO.row;obtain⟨q7,c7,rfl⟩:=Bo LP;have LD:=Ai W.heap.size W;have wT:=Hi (hO.add LD Ir LP);have Vv:=Hi (hO.keeps LD Ir (.slice q7 ((JR Ah A (pre.map (·.name))).length+((fileOf Ah A x.name).getD []).length) c7));have Z8:=Hi (hO.turned LD Ir (.slice q7 ((JR Ah A (pre.map (·.name))).length+((fileOf Ah A x.name).getD []).length) c7));have Di:=Hi (show Oa w w.heap.size Bx (.pointer (some ⟨p,0,none⟩)) 43 Ah A (JP Ah A w w.heap.size) (pre++[x]) (w7.setCell ⟨w.heap.size,0,none⟩ (.slice q7 ((JR Ah A (pre.map (·.name))).length+((fileOf Ah A x.name).getD []).length) c7)) from je hS hG hT Z8 ⟨_,by rw[mK,AA];exact wT.out,fun e=>by simp at e⟩);have NN:=(Ir.block w.heap.size (Ao hO.box) (fun e=>(hO.ne e.symm).1 rfl)).trans hO.box;have XN:w7.cell? ⟨w.heap.size,0,none⟩=some (.slice qv (JR Ah A (pre.map (·.name))).length cv):=cr NN;have ZA:=Dt w7 w.heap.size 0 _ _ NN;have cb:W.cell? ⟨w.heap.size,0,none⟩=some (.slice qv (JR Ah A (pre.map (·.name))).length cv):=cr hO.box;have aiN:=Ao hO.box;rw[←FN] at QT;clear hS hG hT hO FN hP DJ hlen LP Ir LD NN;simp only[np];generalize x.row=xr at*;generalize (JR Ah A (pre.map (·.name))).length=rn at*;generalize ((fileOf Ah A x.name).getD []).length=fn at*;generalize (Value.string (bs x.name))=xnm at*
  gi_wp2
  exact⟨Vv,Di⟩
 case done=>
  intro D xs W hD hS hI Dv;obtain⟨B,v,hO,-⟩:=jc hI;rw[hS,HE.out] at hO;have Af:=hO.row;obtain⟨q,c,rfl,Hl,BN⟩:=FH Af;have HO:=Hi hO;have SN:=Hi Dv;have HD:=Hi (show w.heap.size≤D from Aw (Aw (Nat.le_succ _) D5.size) hD);have cb:W.cell? ⟨w.heap.size,0,none⟩=some (.slice q (EG Ah A).length c):=cr hO.box;have JW:=Hi (fT (w:=W) (Bf.CX Af) Hl HL);clear hS hI Dv hD hO Af
  gi_wp2
  refine⟨trivial,(Dr.2 JW).mono ?_⟩;rintro e w5⟨kv,rfl,Cz,BF⟩;have aeK:=Hi ((BF.block D (Dq.1 SN).1).trans SN);have CZ:=Hi (HO.AO.trans (BF.mono HO.AO.size));have Ls:=Hi (EA Cz HO.AO.size);clear BF Cz
  gi_wp2
  refine⟨by simp,.inl ⟨_,_,rfl,run_takeDeferred aeK,?_⟩⟩;have hu:A7 (fun i=>i=D) w5 (w5.putObj D (.deferred none)):=A7.of_grownBy (F:=fun i=>i=D) (grownBy_putObj' w5 D (.deferred none)) (fun i e=>by cases e;rfl)
  exact⟨_,(by simp[results,results45,go_sem]),_,rfl,Bv Ls hu (fun k hk e=>by
   obtain⟨cs,fz,h2⟩:=Cn Ls hk;rw[e,aeK.out] at h2;cases h2),Cy CZ hu (fun i e=>by rw[e];exact HD.out) CZ.size⟩
end Mem
namespace Mem
open Go.RowKit Go.Maps
open Av Ag Ar Bt Kp BI Hex BH Al
attribute [local go_sem] O8
end Mem
section
open Go.RowKit Go.Maps Go.Sort Go.Shelf
open Ag Ar
def alI:Go.Shelf.Ren:=⟨fun|7=>180|10=>236|n=>n,fun|23=>175|26=>9|3=>176|28=>256|0=>0|27=>255|33=>231|4=>4|n=>n,fun|n=>n⟩
theorem alH:Go.Proofs.SlLaysZ.n7 prog alI:={
 mixed:=by kernel_rfl
 f7:=⟨Tryz.f180.name,by decide,func180.trans (congrArg some (by kernel_rfl))⟩
 f10:=⟨Tryz.f236.name,by decide,func236.trans (congrArg some (by kernel_rfl))⟩
 t0:=underlying0
 a0:=Tryz.isAgg0
 z0:=Tryz.sizeOf0
 v0:=Tryz.zeroValue0
 t4:=underlying4
 a4:=Tryz.isAgg4
 z4:=Tryz.sizeOf4
 v4:=Tryz.zeroValue4
 t23:=underlying175
 a23:=Tryz.isAgg175
 z23:=Tryz.sizeOf175
 v23:=Tryz.zeroValue175
 t26:=underlying9
 a26:=Tryz.isAgg9
 z26:=Tryz.sizeOf9
 v26:=Tryz.zeroValue9
 t27:=underlying255
 a27:=Tryz.isAgg255
 z27:=Tryz.sizeOf255
 v27:=Tryz.zeroValue255
 t28:=underlying256
 a28:=Tryz.isAgg256
 z28:=Tryz.sizeOf256
 v28:=Tryz.zeroValue256
 t33:=underlying231
 a33:=Tryz.isAgg231
 z33:=Tryz.sizeOf231
 v33:=Tryz.zeroValue231 }
def agv:Go.Shelf.Ren:=⟨fun|7=>193|10=>248|n=>n,fun|23=>190|26=>9|3=>193|28=>256|0=>0|27=>255|33=>231|4=>4|n=>n,fun|n=>n⟩
theorem agu:Go.Proofs.SlLaysZ.n7 prog agv:={
 mixed:=by kernel_rfl
 f7:=⟨Tryz.f193.name,by decide,func193.trans (congrArg some (by kernel_rfl))⟩
 f10:=⟨Tryz.f248.name,by decide,func248.trans (congrArg some (by kernel_rfl))⟩
 t0:=underlying0
 a0:=Tryz.isAgg0
 z0:=Tryz.sizeOf0
 v0:=Tryz.zeroValue0
 t4:=underlying4
 a4:=Tryz.isAgg4
 z4:=Tryz.sizeOf4
 v4:=Tryz.zeroValue4
 t23:=underlying190
 a23:=Tryz.isAgg190
 z23:=Tryz.sizeOf190
 v23:=Tryz.zeroValue190
 t26:=underlying9
 a26:=Tryz.isAgg9
 z26:=Tryz.sizeOf9
 v26:=Tryz.zeroValue9
 t27:=underlying255
 a27:=Tryz.isAgg255
 z27:=Tryz.sizeOf255
 v27:=Tryz.zeroValue255
 t28:=underlying256
 a28:=Tryz.isAgg256
 z28:=Tryz.sizeOf256
 v28:=Tryz.zeroValue256
 t33:=underlying231
 a33:=Tryz.isAgg231
 z33:=Tryz.sizeOf231
 v33:=Tryz.zeroValue231 }
theorem axY(mb:Option Nat)(W:World):Calls prog 180 #[.map mb] W fun e w'=>e=.returned (.func (.func 236) #[] #[.pointer (some ⟨W.heap.size,0,none⟩)])∧w'=W.alloc (.cells #[.map mb] 175):=
 Dr.1 (AnyZ.keys_in alH Fence.wide 5 trivial rfl mb W)
theorem ay3{w:World}{m:Nat}{kv:List (T×Value)}(UW:G9 prog 9 w m kv)(hlen:kv.length≤1000000):
  Calls prog 168 #[.func (.func 236) #[] #[.pointer (some ⟨w.heap.size,0,none⟩)]] (w.alloc (.cells #[.map (some m)] 175)) fun e w'=>
   ∃ v,e=.returned v∧w'.ownsRow (w.heap.size+1) 9 1 v kv.length (((kv.map (·.1)).mergeSort (fun x y=>decide (x≤y))).map encStr)∧Bw w w':=by
 obtain⟨D,hown,BQ,ed⟩:=UW.keyed;have CP:=hown.lt;have LV:SeqGives Fence.wide 2 prog 236 #[.pointer (some ⟨w.heap.size,0,none⟩)] encStr (fun ss=>ss.Perm (strKeys D)) (Maps.size D) (w.alloc (.cells #[.map (some m)] 175)):=
  AnyZ.keys_gives (ρ:=alI) { alH with } Fence.wide _ trivial rfl (by omega) w.heap.size m kv.length D _ (by simp) (by simp) (by
   obtain⟨es,clock,hb,Ft,hs,hD⟩:=hown;exact⟨es,clock,(Below.heap_alloc _ _ m CP).trans hb,Ft,hs,hD⟩)
 have cS:=AnyZ.sorted_in aa4 Fence.wide 5 trivial trivial trivial trivial rfl (by omega) (aa5 _) (enters_of func70 (by kernel_rfl) rfl) 236 #[.pointer (some ⟨w.heap.size,0,none⟩)] trivial (enters_of func236 (by kernel_rfl) rfl) _ _ (by unfold maxLen;omega) (by omega) _ LV;refine(Dr.1 cS).mono ?_;rintro e w'⟨v,ss,rfl,hS,Af,_,hb⟩;have MB:ss.Perm (kv.map (·.1)):=hS.trans ed.symm;have e1:ss.length=kv.length:=by have:=MB.length_eq;simpa using this
 have e2:ss.mergeSort leB=(kv.map (·.1)).mergeSort leB:=mergeSort_of_perm MB;have e3:ss.mergeSort (fun x y=>decide (x≤y))=(kv.map (·.1)).mergeSort (fun x y=>decide (x≤y)):=e2;rw[e1,e3] at Af;exact⟨v,rfl,by rw[Ay] at Af;exact Af,((Ai _ w).alloc (Ae _) _).trans (hb.mono (by rw[Ay];omega))⟩
theorem as1(mb:Option Nat)(W:World):Calls prog 193 #[.map mb] W fun e w'=>e=.returned (.func (.func 248) #[] #[.pointer (some ⟨W.heap.size,0,none⟩)])∧w'=W.alloc (.cells #[.map mb] 190):=
 Dr.1 (AnyZ.keys_in agu Fence.wide 5 trivial rfl mb W)
theorem as3{w:World}{m:Nat}{kv:List (T×Value)}(UW:G9 prog 9 w m kv)(hlen:kv.length≤1000000):
  Calls prog 168 #[.func (.func 248) #[] #[.pointer (some ⟨w.heap.size,0,none⟩)]] (w.alloc (.cells #[.map (some m)] 190)) fun e w'=>
   ∃ v,e=.returned v∧w'.ownsRow (w.heap.size+1) 9 1 v kv.length (((kv.map (·.1)).mergeSort (fun x y=>decide (x≤y))).map encStr)∧Bw w w':=by
 obtain⟨D,hown,BQ,ed⟩:=UW.keyed;have CP:=hown.lt;have LV:SeqGives Fence.wide 2 prog 248 #[.pointer (some ⟨w.heap.size,0,none⟩)] encStr (fun ss=>ss.Perm (strKeys D)) (Maps.size D) (w.alloc (.cells #[.map (some m)] 190)):=
  AnyZ.keys_gives (ρ:=agv) { agu with } Fence.wide _ trivial rfl (by omega) w.heap.size m kv.length D _ (by simp) (by simp) (by
   obtain⟨es,clock,hb,Ft,hs,hD⟩:=hown;exact⟨es,clock,(Below.heap_alloc _ _ m CP).trans hb,Ft,hs,hD⟩)
 have cS:=AnyZ.sorted_in aa4 Fence.wide 5 trivial trivial trivial trivial rfl (by omega) (aa5 _) (enters_of func70 (by kernel_rfl) rfl) 248 #[.pointer (some ⟨w.heap.size,0,none⟩)] trivial (enters_of func248 (by kernel_rfl) rfl) _ _ (by unfold maxLen;omega) (by omega) _ LV;refine(Dr.1 cS).mono ?_;rintro e w'⟨v,ss,rfl,hS,Af,_,hb⟩;have MB:ss.Perm (kv.map (·.1)):=hS.trans ed.symm;have e1:ss.length=kv.length:=by have:=MB.length_eq;simpa using this
 have e2:ss.mergeSort leB=(kv.map (·.1)).mergeSort leB:=mergeSort_of_perm MB;have e3:ss.mergeSort (fun x y=>decide (x≤y))=(kv.map (·.1)).mergeSort (fun x y=>decide (x≤y)):=e2;rw[e1,e3] at Af;exact⟨v,rfl,by rw[Ay] at Af;exact Af,((Ai _ w).alloc (Ae _) _).trans (hb.mono (by rw[Ay];omega))⟩
end
namespace Kp
open Go.Lib Go.RowKit Ag Ar Av Bt
def rowOf(L:List (T×M))(name:T):M:=((L.find? fun x=>x.1 == name).map (·.2)).getD []
theorem mI{L:List (T×M)}(hn:(L.map (·.1)).Nodup){x:T×M}(hx:x∈L):rowOf L x.1=x.2:=by
 unfold rowOf
 induction L with
 |nil=>simp at hx
 |cons y L ih=>
  obtain⟨n1,n2⟩:=Js.1 hn;rcases Cc.1 hx with rfl|hx
  ·simp
  ·have:y.1≠x.1:=fun e=>n1 (show y.1∈L.map (·.1) from by rw[e];exact Hu hx)
   rw[List.find?_cons_of_neg (by simpa using this)];exact ih n2 hx
def Mk(name:T)(l:M):Am:=if l=[] then⟨name,[],true⟩ else⟨name,(BV l).getD [],false⟩
def N8(l:M):Bool:=decide (l=[]) || (BV l).isSome
def Df(L:List (T×M)):List T:=(L.map (·.1)).mergeSort fun x y=>decide (x≤y)
def KR(L:List (T×M)):List Am:=(Df L).map fun t=>Mk t (rowOf L t)
def PG(L:List (T×M)):Bool:=(Df L).all fun t=>N8 (rowOf L t)
theorem lY{L:List (T×M)}{t:T}:t∈Df L↔t∈L.map (·.1):=by
 unfold Df;exact(List.mergeSort_perm _ _).mem_iff
theorem uE(L:List (T×M)):(Df L).length=L.length:=by
 unfold Df;rw[(List.mergeSort_perm _ _).length_eq,BP]
theorem uF{L:List (T×M)}(hn:(L.map (·.1)).Nodup):Df L=Bi (L.map (·.1)):=by
 have hp:(Df L).Perm (L.map (·.1)):=List.mergeSort_perm _ _;have hs:CU ((Df L).map fun t=>(t,[])):=by
  unfold CU;rw[List.pairwise_map]
  have:=List.pairwise_mergeSort (le:=fun x y:T=>decide (x≤y)) (fun a b c h1 h2=>by
   have h1:a≤b:=O9 h1;have h2:b≤c:=O9 h2;exact MM (List.le_trans h1 h2)) (fun a b=>by
   by_cases h:a≤b
   ·simp[h]
   ·have:b≤a:=(List.le_total a b).resolve_left h;simp[this]) (L.map (·.1))
  exact this.imp fun h=>O9 h
 refine Re ?_ (JQ _) fun t=>by rw[hp.mem_iff,Ee]
 have eO:(Df L).Nodup:=hp.nodup_iff.2 hn;unfold CU at hs;rw[List.pairwise_map] at hs;refine(hs.and (List.nodup_iff_pairwise_ne.1 eO)).imp fun {a b} h=>?_
 rcases az h.1 with e|e
 ·exact e
 ·exact absurd e h.2
structure Ob(K:Kind)(A:M)(kt:List T)(L:List (T×M)):Prop where
 nodup:(L.map (·.1)).Nodup
 names:∀ t,t∈L.map (·.1)↔t∈kt.map K.nm
 rows:∀ x∈L,x.2=J6 K A kt x.1
section
variable {K:Kind}{A:M}
theorem Ob.nil:Ob K A [] []:=⟨by simp,fun t=>by simp,fun x hx=>by simp at hx⟩
theorem axA{kt:List T}{name:T}:∀ p∈J6 K A kt name,K.nm p.1=name:=by
 intro p hp;unfold J6 at hp;have h1:=(FZ.1 hp).1;cases hf:fileOf K A name with
 |none=>rw[hf] at h1;simp at h1
 |some l=>
  rw[hf] at h1;unfold fileOf at hf;cases hg:get A name with
  |none=>rw[hg] at hf;cases hf
  |some d=>
   rw[hg] at hf;exact((Nr hf).2.2.1 _ h1).1
theorem acv(kt:List T)(k name:T):J6 K A (kt++[k]) name=(J6 K A kt name).filter fun p=>!(p.1 == k):=by
 unfold J6;rw[List.filter_filter];refine List.filter_congr fun p _=>?_
 by_cases h1:p.1=k<;>by_cases h2:p.1∈kt<;>simp[h1,h2]
theorem alj(kt:List T){k name:T}(h:K.nm k≠name):J6 K A (kt++[k]) name=J6 K A kt name:=by
 rw[acv];refine List.filter_eq_self.2 fun p hp=>?_
 have:=axA p hp;have:p.1≠k:=fun e=>h (by rw[←e];exact this)
 simpa using this
def setRow(L:List (T×M))(name:T)(l:M):List (T×M):=L.map fun x=>if x.1=name then(x.1,l) else x
theorem vJ(L:List (T×M))(name:T)(l:M):(setRow L name l).map (·.1)=L.map (·.1):=by
 unfold setRow;rw[Kq];exact P8 fun x _=>by
  show(if x.1=name then(x.1,l) else x).1=x.1
  split<;>rfl
theorem Ob.new{kt:List T}{L:List (T×M)}(h:Ob K A kt L){k:T}(hk:K.nm k∉L.map (·.1)):Ob K A (kt++[k]) ((K.nm k,((fileOf K A (K.nm k)).getD []).filter fun p=>!(p.1 == k)) :: L):=by
 refine⟨Js.2 ⟨hk,h.nodup⟩,fun t=>?_,fun x hx=>?_⟩
 ·rw[Ca,Cc,h.names,CK,Eh];constructor
  ·rintro(e|e)
   ·exact .inr (by simp[e])
   ·exact .inl e
  ·rintro(e|e)
   ·exact .inr e
   ·exact .inl (by simpa using e)
 ·rcases Cc.1 hx with rfl|hx
  ·show _=J6 K A (kt++[k]) (K.nm k)
   have e:((fileOf K A (K.nm k)).getD []).filter (fun p=>decide (p.1∉kt))=(fileOf K A (K.nm k)).getD []:=List.filter_eq_self.2 fun p hp=>by
    have h1:K.nm p.1=K.nm k:=by
     cases hf:fileOf K A (K.nm k) with
     |none=>rw[hf] at hp;simp at hp
     |some l=>
      rw[hf] at hp;unfold fileOf at hf;cases hg:get A (K.nm k) with
      |none=>rw[hg] at hf;cases hf
      |some d=>
       rw[hg] at hf;exact((Nr hf).2.2.1 _ hp).1
    have:p.1∉kt:=fun e=>hk ((h.names _).2 (Bz.2 ⟨p.1,e,h1⟩))
    simpa using this
   rw[acv];unfold J6;rw[e]
  ·rw[h.rows x hx,alj _ (fun e=>hk (by rw[e];exact Hu hx))]
theorem Ob.pU{ks:List T}{L:List (T×M)}(hg:Ag.Good A)(h:Ob K A ks L)(ht:There K A ks):KR L=Fj K A ks∧PG L=true:=by
 have hn:Df L=Bi (ks.map K.nm):=by
  rw[uF h.nodup];refine Re (JQ _) (JQ _) fun t=>?_
  rw[Ee,Ee];exact h.names t
 have hr:∀ t∈Df L,rowOf L t=J6 K A ks t:=fun t ht=>by
  obtain⟨x,hx,rfl⟩:=Bz.1 (lY.1 ht);rw[mI h.nodup hx,h.rows x hx]
 constructor
 ·unfold KR Fj;rw[←hn];refine P8 fun t ht=>?_
  rw[hr t ht];rfl
 ·unfold PG;rw[MH];intro t hm;rw[hr t hm];rw[hn] at hm;obtain⟨d,l,h1,h2,h3,h4,h5⟩:=dm hg ht hm;have e:J6 K A ks t=l.filter (fun p=>decide (p.1∉ks)):=by unfold J6;rw[h3];rfl
  unfold N8;rw[e];rcases h5 with⟨h5,_⟩|⟨s,h5,h6,_⟩
  ·rw[h5];rfl
  ·rw[h6];simp
end
end Kp
namespace Kp
open Go.Lib Ag Ar Av Bt
theorem Vi{α:Type}{C:List α→Prop}(h0:C [])(h1:∀ l x,C l→C (l++[x]))(l:List α):C l:=by
 have:∀ r:List α,C r.reverse:=fun r=>by
  induction r with
  |nil=>exact h0
  |cons x r ih=>rw[List.reverse_cons];exact h1 _ _ ih
 simpa using this l.reverse
section
variable {K:Kind}{A:M}
def BM(K:Kind)(l:M)(name:T):M:=(l.filter fun p=>K.nm p.1 == name).foldl (fun acc p=>put p.1 p.2 acc) []
theorem NK(l:M)(p:T×T)(name:T):BM K (l++[p]) name=if K.nm p.1=name then put p.1 p.2 (BM K l name) else BM K l name:=by
 unfold BM;rw[M7,List.foldl_append];by_cases h:K.nm p.1=name
 ·rw[Ad h,Vn (by simpa using h)];rfl
 ·rw[Ab h,Rl (by simpa using h)];rfl
theorem Tg(l:M)(name:T):Up (BM K l name):=by
 unfold BM;generalize l.filter _=k
 suffices h:∀ (k a:M),Up a→Up (k.foldl (fun acc p=>put p.1 p.2 acc) a) from h k [] Up.nil
 intro k
 induction k with
 |nil=>exact fun a h=>h
 |cons p k ih=>exact fun a h=>ih _ (h.put _ _)
theorem qQ(l:M)(name:T):∀ q∈BM K l name,K.nm q.1=name∧q∈l:=by
 unfold BM;have hl:∀ q∈l.filter (fun p=>K.nm p.1 == name),K.nm q.1=name∧q∈l:=fun q hq=>by
  obtain⟨h1,h2⟩:=FZ.1 hq;exact⟨by simpa using h2,h1⟩
 generalize l.filter _=k at hl
 suffices h:∀ (k a:M),Up a→(∀ q∈k,K.nm q.1=name∧q∈l)→(∀ q∈a,K.nm q.1=name∧q∈l)→∀ q∈k.foldl (fun acc p=>put p.1 p.2 acc) a,K.nm q.1=name∧q∈l from h k [] Up.nil hl (fun q hq=>by simp at hq)
 intro k
 induction k with
 |nil=>exact fun a _ _ h=>h
 |cons p k ih=>
  refine fun a hu h1 h2=>ih _ (hu.put _ _) (fun q hq=>h1 q (F9 _ hq)) fun q hq=>?_
  rcases(TQ hu).1 hq with rfl|⟨hq,_⟩
  ·exact h1 p (by simp)
  ·exact h2 q hq
theorem jD{l:M}{name:T}(h:name∉l.map fun p=>K.nm p.1):BM K l name=[]:=by
 cases hg:BM K l name with
 |nil=>rfl
 |cons q r=>
  obtain⟨h1,h2⟩:=qQ (K:=K) l name q (by rw[hg];simp);exact absurd (Bz.2 ⟨q,h2,h1⟩) h
theorem ahW{l:M}{p:T×T}(h:p∈l):BM K l (K.nm p.1)≠[]:=by
 suffices hs:∀ l:M,(∃ q∈l,K.nm q.1=K.nm p.1)→BM K l (K.nm p.1)≠[] from hs l ⟨p,h,rfl⟩
 intro l
 induction l using Vi with
 |h0=>rintro⟨q,hq,_⟩;simp at hq
 |h1 l x ih=>
  rintro⟨q,hq,e⟩;rw[NK];split
  ·rename_i hx
   exact List.ne_nil_of_mem ((TQ (Tg l _)).2 (.inl rfl))
  ·rename_i hx
   refine ih ⟨q,?_,e⟩;rcases Eh.1 hq with hq|hq
   ·exact hq
   ·rw[FJ] at hq;rw[hq] at e;exact absurd e hx
def Fits(K:Kind)(l:M):Prop:=∀ j,(h:j < l.length)→(BV (BM K (l.take (j+1)) (K.nm l[j].1))).isSome=true
instance (K:Kind) (l:M):Decidable (Fits K l):=inferInstanceAs (Decidable (∀ j,(h:j < l.length)→_))
theorem Fits.mf{l:M}{p:T×T}:Fits K (l++[p])↔Fits K l∧(BV (BM K (l++[p]) (K.nm p.1))).isSome=true:=by
 unfold Fits;constructor
 ·intro h;refine⟨fun j hj=>?_,?_⟩
  ·have:=h j (by simp;omega);rw[Sw hj,List.take_append_of_le_length (by omega)] at this;exact this
  ·have:=h l.length (by simp);simp only[Vo (Ae _),Nat.sub_self,List.getElem_cons_zero] at this;rw[Gu (by simp)] at this;exact this
 ·rintro⟨h1,h2⟩ j hj;by_cases e:j < l.length
  ·rw[Sw e,List.take_append_of_le_length (by omega)];exact h1 j e
  ·obtain rfl:j=l.length:=(by simp at hj;omega);simp only[Vo (Ae _),Nat.sub_self,List.getElem_cons_zero];rw[Gu (by simp)];exact h2
theorem Fits.all{l:M}(h:Fits K l):∀ p∈l,(BV (BM K l (K.nm p.1))).isSome=true:=by
 suffices hs:∀ l:M,Fits K l→∀ p∈l,(BV (BM K l (K.nm p.1))).isSome=true from hs l h
 intro l
 induction l using Vi with
 |h0=>exact fun _ p hp=>by simp at hp
 |h1 l x ih=>
  intro hf p hp;obtain⟨h1,h2⟩:=Fits.mf.1 hf;by_cases e:K.nm x.1=K.nm p.1
  ·rw[←e];exact h2
  ·rw[NK,Ab e];refine ih h1 p ?_;rcases Eh.1 hp with hp|hp
   ·exact hp
   ·rw[FJ] at hp;rw[hp] at e;exact absurd rfl e
def MC(K:Kind)(l:M)(name:T):Am:=⟨name,(BV (BM K l name)).getD [],false⟩
def ES(K:Kind)(l:M):List Am:=(Bi (l.map fun p=>K.nm p.1)).map (MC K l)
def FP(K:Kind)(l:M):List Am:=(List.range l.length).map fun j=>MC K (l.take (j+1)) (K.nm (l.getD j ([],[])).1)
theorem vM(l:M)(p:T×T):FP K (l++[p])=FP K l++[MC K (l++[p]) (K.nm p.1)]:=by
 unfold FP;rw[AA,Le,List.range_succ,CK,List.map_singleton]
 congr 1
 ·refine P8 fun j hj=>?_
  have hj:=List.mem_range.1 hj;rw[List.take_append_of_le_length (by omega)]
  congr 2
  simp[Ig,List.getElem?_append_left hj]
 ·rw[Gu (by simp)];simp[Ig]
theorem aBS{F G:M}(hF:Up F)(hG:Up G)(h:∀ k,get F k=get G k):F=G:=
 aU hF hG fun p=>⟨fun hp=>get_some (by rw[←h];exact get_mem hF (show(p.1,p.2)∈F from hp)),fun hp=>get_some (by rw[h];exact get_mem hG (show(p.1,p.2)∈G from hp))⟩
theorem qM(hu:Up A)(l:M)(name:T):get (made A (FP K l)) name=if name∈l.map (fun p=>K.nm p.1) then some ((BV (BM K l name)).getD []) else get A name:=by
 induction l using Vi with
 |h0=>rfl
 |h1 l p ih=>
  rw[vM,ug]
  show get (put (K.nm p.1) _ (made A (FP K l))) name=_
  rw[get_put (hu.made _),CK,List.map_singleton];by_cases e:name=K.nm p.1
  ·subst e;rw[Ad rfl,Ad (by simp)];rfl
  ·have e2:¬ K.nm p.1=name:=fun h=>e h.symm
   rw[Ab e,ih,NK,Ab e2];by_cases hm:name∈l.map fun p=>K.nm p.1
   ·rw[Ad hm,Ad (U2 _ hm)]
   ·have hn:¬ name∈(l.map fun p=>K.nm p.1)++[K.nm p.1]:=fun h=>(Eh.1 h).elim hm (fun h=>e (FJ.1 h))
    rw[Ab hm,Ab hn]
theorem amt(l:M):(ES K l).map (·.name)=Bi (l.map fun p=>K.nm p.1):=by
 unfold ES;rw[Kq]
 conv=>rhs;rw[←List.map_id (Bi (l.map fun p=>K.nm p.1))]
 exact P8 fun x _=>rfl
theorem Zk(hu:Up A)(l:M)(name:T):get (made A (ES K l)) name=if name∈l.map (fun p=>K.nm p.1) then some ((BV (BM K l name)).getD []) else get A name:=by
 by_cases hm:name∈l.map fun p=>K.nm p.1
 ·rw[Ad hm];have hc:MC K l name∈ES K l:=Hu ((Ee _ _).2 hm);have:=aaf hu (by rw[amt];exact WM _) hc;exact this
 ·rw[Ab hm];exact jB hu (by rw[amt,Ee];exact hm)
theorem mq(hu:Up A)(l:M):made A (FP K l)=made A (ES K l):=aBS (hu.made _) (hu.made _) fun k=>by rw[qM hu,Zk hu]
theorem dh{l:M}{d:T}(h:BV l=some d):d.length≤65535:=by
 unfold BV at h;cases h1:FO l with
 |none=>rw[h1] at h;cases h
 |some s=>
  rw[h1] at h;simp only[CL] at h;split at h
  ·simp only[Ci] at h;subst h;rw[A9.Sl];omega
  ·cases h
theorem acR(hK:K.BO){l:M}(h:Fits K l){p:T×T}(hp:p∈l):(MC K l (K.nm p.1)).may=true:=by
 obtain⟨d,hd⟩:=Lh.1 (h.all p hp);have hl:=hK.len p.1;have hne:K.nm p.1≠[]:=fun e=>by rw[e] at hl;cases hl
 have:=dh hd;unfold MC Am.may Fu;rw[hd];simp[hne,hl,this]
theorem ams(hK:K.BO){l:M}(h:Fits K l):(ES K l).all Am.may=true:=by
 rw[MH];intro c hc;obtain⟨name,hn,rfl⟩:=Bz.1 hc;obtain⟨p,hp,rfl⟩:=Bz.1 ((Ee _ _).1 hn);exact acR hK h hp
def H9(K:Kind)(n:Nat)(A:M)(l:M):Int×M:=if Fits K l then(FC n A (ES K l),En n A (ES K l)) else(5,A)
theorem acW(hK:K.BO){n:Nat}{l:M}(h:Fits K l):H9 K n A l=if Co n < used (made A (ES K l)) then(4,A) else(0,made A (ES K l)):=by
 unfold H9 FC En;rw[Ad h,ams hK h];by_cases hr:Co n < used (made A (ES K l))
 ·rw[Ad hr,Ab (by simp),Ad hr,Ab (fun e=>by have:=e.2;omega)]
 ·rw[Ab hr,Ab (by simp),Ab hr,Ad ⟨rfl,by omega⟩]
end
end Kp
namespace Kp
open Go.Lib Go.RowKit Ag Ar Av Bt
structure EF(K:Kind)(lt:M)(L:List (T×M)):Prop where
 nodup:(L.map (·.1)).Nodup
 names:∀ t,t∈L.map (·.1)↔t∈lt.map fun p=>K.nm p.1
 rows:∀ x∈L,x.2=BM K lt x.1
section
variable {K:Kind}{A:M}
theorem EF.nil:EF K [] []:=⟨by simp,fun t=>by simp,fun x hx=>by simp at hx⟩
theorem EF.more{lt:M}{L:List (T×M)}(h:EF K lt L){p:T×T}(hk:K.nm p.1∈L.map (·.1)):EF K (lt++[p]) (setRow L (K.nm p.1) (put p.1 p.2 (BM K lt (K.nm p.1)))):=by
 refine⟨by rw[vJ];exact h.nodup,fun t=>?_,fun x hx=>?_⟩
 ·rw[vJ,h.names,CK,Eh];constructor
  ·exact .inl
  ·rintro(e|e)
   ·exact e
   ·rw[List.map_singleton,FJ] at e;rw[e];exact(h.names _).1 hk
 ·unfold setRow at hx;obtain⟨y,hy,rfl⟩:=Bz.1 hx;by_cases e:y.1=K.nm p.1
  ·rw[Ad e]
   show _=BM K (lt++[p]) y.1
   rw[e,NK,Ad rfl]
  ·rw[Ab e,NK,Ab (fun e'=>e e'.symm)];exact h.rows y hy
theorem EF.new{lt:M}{L:List (T×M)}(h:EF K lt L){p:T×T}(hk:K.nm p.1∉L.map (·.1)):EF K (lt++[p]) ((K.nm p.1,put p.1 p.2 []) :: L):=by
 refine⟨Js.2 ⟨hk,h.nodup⟩,fun t=>?_,fun x hx=>?_⟩
 ·rw[Ca,Cc,h.names,CK,Eh];constructor
  ·rintro(e|e)
   ·exact .inr (by simp[e])
   ·exact .inl e
  ·rintro(e|e)
   ·exact .inr e
   ·exact .inl (by simpa using e)
 ·rcases Cc.1 hx with rfl|hx
  ·show _=BM K (lt++[p]) (K.nm p.1)
   rw[NK,Ad rfl,jD (fun e=>hk ((h.names _).2 e))]
  ·rw[h.rows x hx,NK,Ab (fun e=>hk (by rw[e];exact Hu hx))]
theorem uV{lt:M}{L:List (T×M)}(h:EF K lt L):L.length≤lt.length:=by
 have h1:(Df L).length=L.length:=uE L;rw[uF h.nodup] at h1;have h2:Bi (L.map (·.1))=Bi (lt.map fun p=>K.nm p.1):=Re (JQ _) (JQ _) fun t=>by rw[Ee,Ee];exact h.names t
 have h3:=Vh (lt.map fun p=>K.nm p.1);rw[←h2,h1,BP] at h3;exact h3
theorem EF.pU{l:M}{L:List (T×M)}(h:EF K l L):KR L=ES K l:=by
 have hn:Df L=Bi (l.map fun p=>K.nm p.1):=by
  rw[uF h.nodup];refine Re (JQ _) (JQ _) fun t=>?_
  rw[Ee,Ee];exact h.names t
 unfold KR ES;rw[hn];refine P8 fun t ht=>?_
 rw[←hn] at ht;obtain⟨x,hx,rfl⟩:=Bz.1 (lY.1 ht);rw[mI h.nodup hx,h.rows x hx];obtain⟨p,hp,e⟩:=Bz.1 ((h.names x.1).1 (Hu hx));unfold Mk MC;rw[Ab];rw[←e];exact ahW hp
theorem EF.fits{l:M}{L:List (T×M)}(h:EF K l L)(hf:Fits K l):PG L=true:=by
 unfold PG;rw[MH];intro t ht;obtain⟨x,hx,rfl⟩:=Bz.1 (lY.1 ht);rw[mI h.nodup hx,h.rows x hx];obtain⟨p,hp,e⟩:=Bz.1 ((h.names x.1).1 (Hu hx));unfold N8;rw[←e,hf.all p hp];simp
theorem alP{l:M}(hu:Up l)(p:T×T):L6 [l.filter (fun q=>!(q.1 == p.1)),[p]]=put p.1 p.2 l:=by
 have hd:del p.1 l=l.filter (fun q=>!(q.1 == p.1)):=rfl
 show Gr (Gr [] (F7 (l.filter _))) (F7 [p])=_
 rw[lZ,←hd,anS (hu.del _),←ayh hu p.1 p.2]
 congr 1
 exact anS (Sz _ _)
end
end Kp
namespace Kp
open Go.Lib Go.RowKit Ag Ar Av Bt Hex
abbrev Us:=List (T×List T)
def Qf(u:T×List T):T×T:=(u.1,(D8 (Bi u.2)).1)
def BA(l:Us):M:=l.map Qf
def MW(l:Us):Prop:=∀ u∈l,(D8 (Bi u.2)).2=0
instance (l:Us):Decidable (MW l):=inferInstanceAs (Decidable (∀ u∈l,_))
def Ie(n:Nat)(A:M)(l:Us):Int×M:=if MW l then H9 Aa n A (BA l) else(5,A)
theorem an8{l:List T}(h:(D8 l).2=0):Dp (D8 l).1=some l:=by
 unfold D8 at h ⊢;cases he:GN l with
 |none=>rw[he] at h;cases h
 |some s=>exact amO he
theorem aA1{l:List T}:(D8 l).2=0↔(GN l).isSome=true:=by
 unfold D8;cases GN l<;>simp
theorem aC0{u:T×List T}(h:(D8 (Bi u.2)).2=0):Aa.ok (Qf u)=true:=by
 show rowOk _=true
 unfold rowOk Qf;rw[an8 h]
 show decide (Bi (Bi u.2)=Bi u.2)=true
 rw[mH (JQ _)];exact MM rfl
theorem wh{l:Us}(h:MW l):∀ p∈BA l,Aa.ok p=true:=fun p hp=>by
 obtain⟨u,hu,rfl⟩:=Bz.1 hp;exact aC0 (h u hu)
theorem wu(l:Us)(k:Nat):BA (l.take k)=(BA l).take k:=by unfold BA;rw[List.map_take]
theorem P5(l:Us):(BA l).length=l.length:=by unfold BA;rw[BP]
theorem anb{l:Us}{u:T×List T}:MW (l++[u])↔MW l∧(D8 (Bi u.2)).2=0:=by
 unfold MW;constructor
 ·intro h;exact⟨fun x hx=>h x (U2 _ hx),h u (by simp)⟩
 ·rintro⟨h1,h2⟩ x hx;rcases Eh.1 hx with e|e
  ·exact h1 x e
  ·obtain rfl:x=u:=(by simpa using e);exact h2
theorem aos(l:Us)(u:T×List T):BA (l++[u])=BA l++[Qf u]:=by unfold BA;rw[CK];rfl
section
variable {K:Kind}{A:M}
theorem jq(hu:Up A)(D9:∀ k,get A (K.nm k)=none){l:M}(hok:∀ p∈l,K.ok p=true)(hf:Fits K l)(k:T):fileOf K (made A (FP K l)) (K.nm k)=if K.nm k∈l.map (fun p=>K.nm p.1) then some (BM K l (K.nm k)) else none:=by
 unfold fileOf;rw[qM hu];by_cases h:K.nm k∈l.map fun p=>K.nm p.1
 ·rw[Ad h,Ad h];obtain⟨p,hp,e⟩:=Bz.1 h;have e:K.nm p.1=K.nm k:=e;rw[←e];have hc:=hf.all p hp;obtain⟨d,hd⟩:=Lh.1 hc;rw[hd]
  show K.CB _ d=_
  exact ad3 hd (ahW hp) (Tg _ _) fun q hq=>⟨(qQ _ _ q hq).1,hok q (qQ _ _ q hq).2⟩
 ·rw[Ab h,Ab h,D9];rfl
theorem ah1(hu:Up A)(D9:∀ k,get A (K.nm k)=none){l:M}(hok:∀ p∈l,K.ok p=true)(hf:Fits K l)(k:T):(fileOf K (made A (FP K l)) (K.nm k)).getD []=BM K l (K.nm k):=by
 rw[jq hu D9 hok hf];split
 ·rfl
 ·rename_i h
  rw[jD h];rfl
theorem zZ:Fits K []:=fun j hj=>by simp at hj
theorem am2{K':Kind}(hK:K.BO)(jI:K'.BO)(hd:∀ x,K.ours x=true→K'.ours x=true→False)(hu:Up A)(D9:∀ k,get A (K.nm k)=none){n:Nat}(l:M):∀ k,get (H9 K' n A l).2 (K.nm k)=none:=by
 intro k;unfold H9;split
 ·show get (En n A (ES K' l)) _=none
  unfold En;split
  ·rw[Zk hu,Ab,D9];intro h;obtain⟨p,_,e⟩:=Bz.1 h;exact hd _ (hK.Nq k) (by rw[←e];exact jI.Nq _)
  ·exact D9 k
 ·exact D9 k
theorem aoq(hu:Up A)(l:M):used (made A (FP K l))=used (made A (ES K l)):=by rw[mq hu]
end
end Kp
namespace Bt
open Ag Ar
def JZ(o:M)(k:T):Nat→Nat
 |0=>0
 |n+1=>if k < (o.getD n ([],[])).1 then JZ o k n else n+1
def Sb(o:M)(x:T×T):M:=o.take (JZ o x.1 o.length)++[x]++o.drop (JZ o x.1 o.length)
def M4(l:M):M:=l.foldl Sb []
theorem agp(o:M)(k:T):∀ n,JZ o k n≤n
 |0=>Ae _
 |n+1=>by
  unfold JZ;split
  ·exact Nat.le_succ_of_le (agp o k n)
  ·exact Ae _
theorem agn(o:M)(k:T):∀ n,∀ i,JZ o k n≤i→i < n→k < (o.getD i ([],[])).1
 |0,i,_,h=>absurd h (Nat.not_lt_zero _)
 |n+1,i,h1,h2=>by
  unfold JZ at h1;split at h1
  ·rename_i hk
   by_cases e:i=n
   ·rw[e];exact hk
   ·exact agn o k n i h1 (by omega)
  ·omega
theorem zF(o:M)(k:T):∀ n,∀ i,JZ o k n=i+1→(o.getD i ([],[])).1≤k
 |0,i,h=>by unfold JZ at h;omega
 |n+1,i,h=>by
  unfold JZ at h;split at h
  ·exact zF o k n i h
  ·rename_i hk
   obtain rfl:n=i:=(by omega);exact fO.1 hk
theorem awW(o:M)(x:T×T):(Sb o x).Perm (x :: o):=by
 unfold Sb;have h:=List.perm_middle (a:=x) (l₁:=o.take (JZ o x.1 o.length)) (l₂:=o.drop (JZ o x.1 o.length));rw[MK] at h;rw[Dz];exact h
theorem anP{o:M}(h:CU o){k:T}{n:Nat}(hn:n≤o.length)(hl:∀ i,n=i+1→(o.getD i ([],[])).1≤k):∀ p∈o.take n,p.1≤k:=by
 intro p hp;obtain⟨j,hj,rfl⟩:=List.mem_iff_getElem.1 hp;rw[AZ] at hj;rw[List.getElem_take];obtain⟨i,rfl⟩:∃ i,n=i+1:=⟨n -1,by omega⟩;have h1:=hl i rfl;rw[Ig,CJ (show i < o.length by omega),Option.getD_some] at h1;by_cases e:j=i
 ·subst e;exact h1
 ·exact List.le_trans (List.pairwise_iff_getElem.1 h j i (by omega) (by omega) (by omega)) h1
theorem awX{o:M}(h:CU o)(x:T×T):CU (Sb o x):=by
 unfold Sb;have hc:=agp o x.1 o.length;refine List.pairwise_append.2 ⟨List.pairwise_append.2 ⟨h.sublist (List.take_sublist _ _),Sz _ _,fun a ha b hb=>?_⟩,h.sublist (List.drop_sublist _ _),fun a ha b hb=>?_⟩
 ·obtain rfl:b=x:=by simpa using hb
  exact anP h hc (fun i hi=>zF o b.1 _ i hi) a ha
 ·obtain⟨j,hj,rfl⟩:=List.mem_iff_getElem.1 hb;rw[Ct] at hj;rw[List.getElem_drop];have hk:=agn o x.1 o.length (JZ o x.1 o.length+j) (by omega) (by omega);rw[Ig,CJ (show JZ o x.1 o.length+j < o.length by omega),Option.getD_some] at hk;rcases Eh.1 ha with e|e
  ·exact List.le_trans (anP h hc (fun i hi=>zF o x.1 _ i hi) a e) (lS hk)
  ·obtain rfl:a=x:=(by simpa using e);exact lS hk
theorem anI(l:M):∀ o,CU o→CU (l.foldl Sb o)∧(l.foldl Sb o).Perm (o++l):=by
 induction l with
 |nil=>intro o ho;exact⟨ho,by simp⟩
 |cons x l ih=>
  intro o ho;obtain⟨h1,h2⟩:=ih (Sb o x) (awX ho x);refine⟨h1,h2.trans ?_⟩;refine((awW o x).append_right l).trans ?_;exact List.perm_middle.symm
theorem anJ(l:M):(M4 l).Perm l:=(anI l [] List.Pairwise.nil).2
theorem aAR(l:M):CU (M4 l):=(anI l [] List.Pairwise.nil).1
theorem aAO(l:M):(M4 l).length=l.length:=(anJ l).length_eq
theorem aAQ(l:M)(x:T×T):M4 (l++[x])=Sb (M4 l) x:=by unfold M4;rw[List.foldl_append];rfl
theorem aAP{l:M}(h:Up l)(k v:T):M4 (l.filter (fun p=>!(p.1 == k))++[(k,v)])=put k v l:=by
 have hd:del k l=l.filter (fun q=>!(q.1 == k)):=rfl;rw[←hd];have hp:=anJ (del k l++[(k,v)]);have hdu:=h.del k;refine aU (vZ (aAR _) ?_) (h.put k v) fun p=>?_
 ·rw[(hp.map (·.1)).nodup_iff,CK,List.nodup_append];refine⟨hdu.nodup,by simp,fun a ha b hb=>?_⟩;simp only[Ca,Kr,FJ] at hb;subst hb;obtain⟨q,hq,rfl⟩:=Bz.1 ha;exact(Yq.1 hq).2
 ·rw[hp.mem_iff,TQ h,Eh,Yq,FJ];exact⟨fun e=>e.elim .inr .inl,fun e=>e.elim .inr .inl⟩
end Bt
namespace Bt
open Go.RowKit Go.Maps
open Ag Ar Av
theorem anh{w:World}{a:Option Addr}{cap:Nat}{l:M}(h:Bf w a l)(hl:l.length≤1000000):
  Calls prog 245 #[.slice a l.length cap] w fun e w'=>e=.returned (.bool (decide (CU l)))∧Bw w w':=by
 have HH:=Hi h;clear h
 go_in
 go_wp2
 go_loopw [3] (fun i wr=>∃ k:Nat,1≤k∧(k≤l.length∨k=1)∧i=.int .i64 (k:Int)∧CU (l.take k)∧Bw w wr) (fun i _=>l.length -(intOf i).toNat)
 case atStart=>exact⟨1,Ae _,.inr rfl,rfl,by
  cases l with
  |nil=>exact List.Pairwise.nil
  |cons x l=>exact Sz _ _,Ai _ _⟩
 case round=>
  obtain⟨k,F4,hk,rfl,hs,hb⟩:=hrel;by_cases hlt:k < l.length
  ·obtain⟨p,Cs,hp,-⟩:=HH.index cap k hlt;obtain⟨p',abb,Nh,-⟩:=HH.index cap (k -1) (by omega);have QV:IntKind.i64.wrap ((k:Int) -1)=((k -1:Nat):Int):=(by rw[ET _ (by omega)];omega);have c1:=(hp.upd (ub hb) (fun f=>f)).key;have c2:=(Nh.upd (ub hb) (fun f=>f)).key;have HT:=Hi (fun hn=>anQ hs F4 hlt hn);have HN:=Hi (fun hn=>am4 F4 hlt hn);have HB:=Hi hb;clear hs hb hp Nh;generalize l[k]=x at*;generalize l[k -1]'(by omega)=y at*;by_cases J5:x.1 < y.1
   ·have CP:Op.bytesLess x.1 y.1=true:=(by rw[Go.Proofs.bytesLess_eq];simpa using J5);have xZ:=Hi (HN J5);clear HT HN J5;go_wp2;go_region;go_wp2;go_ret;exact⟨by first|rfl|(rw[decide_eq_false xZ.out];rfl),HB.drew⟩
   ·have CP:Op.bytesLess x.1 y.1=false:=(by rw[Go.Proofs.bytesLess_eq];simpa using J5);have Uk:=Hi (HT J5);clear HT HN J5;go_wp2;go_region;go_wp2;go_roundw
    case rel=>exact⟨k+1,by omega,.inl (by omega),by go_num,Uk.out,HB.drew⟩
    case measure=>simp[intOf];omega
  ·have HS:=Hi (show CU l from by
    have:=hs;rwa[Gu (by omega)] at this)
   have HB:=Hi hb;have kR:¬ (k:Int) < (l.length:Int):=(by omega);clear hs hb hlt;go_wp2;go_ret;exact⟨by first|rfl|(rw[MM HS.out];rfl),HB.out⟩
def aqs(l:M)(k:Nat)(v:Value):Prop:=∃ S,v=.string (bs (A9.le 2 l.length++S))∧BK (flat (l.take k))=some S
theorem ayL{l:M}{k:Nat}{S x y:T}(hk:k < l.length)(h:BK (flat (l.take k))=some S)(hx:l[k].1=x)(hy:l[k].2=y)(h1:x.length≤65535)(h2:y.length≤65535):BK (flat (l.take (k+1)))=some (S++(A9.le 2 x.length++x)++(A9.le 2 y.length++y)):=by
 have e1:BK (flat (l.take k)++[x])=some (S++(A9.le 2 x.length++x)):=by
  rw[adA h x];unfold Eg;rw[Ad h1];rfl
 rw[aa1 hk,hx,hy,show flat (l.take k)++[x,y]=(flat (l.take k)++[x])++[y] by simp,adA e1 y];unfold Eg;rw[Ad h2];rfl
theorem ane{w:World}{a:Option Addr}{cap:Nat}{l:M}(h:Bf w a l)(hs:CU l)(hl:l.length≤60000)(D7:rowLen (flat l)≤1000000000):
  Calls prog 186 #[.slice a l.length cap] w fun e w'=>e=.returned (.tuple #[.string (bs (Ed l).1),.int .i64 (Ed l).2])∧Bw w w':=by
 have HH:=Hi h;have VG:=Hi D7;have HS:=Hi hs;have Uh:=Hi (show FO l=(BK (flat l)).map (A9.le 2 l.length++ ·) from by unfold FO;rw[Ad (by omega)]);have oC:=Hi (show Ed l=match FO l with|none=>([],5)|some s=>(s,0) from rfl);generalize Ed l=V at*;clear h D7 hs
 go_in
 go_wp2_with fail;refine(uJ l.length 2 _ (by omega) (by decide)).mono ?_;rintro e w1⟨rfl,hb⟩;have HB1:=Hi hb;clear hb;go_wp2
 go_loopw [4,5] (fun v i wr=>∃ (k:Nat),k≤l.length∧i=.int .i64 k∧aqs l k v∧Bw w wr) (fun _ i _=>l.length -(intOf i).toNat)
 case atStart=>exact⟨0,by omega,rfl,⟨[],by rw[Ea],rfl⟩,HB1⟩
 case round=>
  clear HB1;obtain⟨k,hk,rfl,⟨S,rfl,hS⟩,hb⟩:=hrel;have VF:=Hi hS;have HB:=Hi hb;clear hS hb;by_cases hlt:k < l.length
  ·obtain⟨q,Iu,hq,-⟩:=(HH.below HB).index cap k hlt;have c0:=hq.key;have c1:=hq.val;have Gm:=an7 l (k+1);have GK:=WO VF.out;have GL:=VG.out;have IL:rowLen (flat (l.take (k+1)))=rowLen (flat (l.take k))+(2+l[k].1.length)+(2+l[k].2.length):=by
    rw[aa1 hlt];have:=an6 (flat (l.take k)) [l[k].1,l[k].2];have e:rowLen [l[k].1,l[k].2]=2+((2+l[k].1.length)+(2+l[k].2.length)):=(by unfold rowLen;simp);omega
   have Di:=Hi (fun(x y:T) (hx:l[k].1=x) (hy:l[k].2=y)=>ayL hlt VF hx hy);have aeu:=Hi (fun(x y:T) (hx:l[k].1=x) (hy:l[k].2=y) (hf:65535 < x.length∨65535 < y.length)=>show BK (flat l)=none from hf.elim (fun e=>adB (jv hlt (by rw[hx];simp)) e) (fun e=>adB (jv hlt (by rw[hy];simp)) e));obtain⟨x,hx⟩:=ex (l[k].1);obtain⟨y,hy⟩:=ex (l[k].2);have hle:S.length+x.length+y.length≤1000000000:=(by rw[←hx,←hy];omega);have NC:=Hi (Di x y hx hy);have iD:=Hi (aeu x y hx hy);rw[hx] at c0;rw[hy] at c1;clear Di aeu hq hx hy Gm GK GL IL;by_cases Em:x.length≤65535
   ·by_cases O1:y.length≤65535
    ·have YV:=Hi (NC Em O1);clear NC iD;go_wp2_with fail;refine(mO x _ Em).mono ?_;rintro e w3⟨rfl,Ap⟩;have Au:=bH HB Ap;have c1:w3.cell? ⟨q.block,q.off+1,none⟩=some (.string (bs y)):=(Ap.cell (p:=⟨q.block,q.off+1,none⟩) (Cr c1)).trans c1;clear Ap;go_wp2_with fail;refine(mO y _ O1).mono ?_;rintro e w4⟨rfl,AB⟩;have AX:=bH Au AB;clear AB;have BN:∀ z:T,(A9.le 2 z.length++z).length=2+z.length:=fun z=>by rw[AA,A9.C9]
     go_wp2;go_roundw
     case rel=>exact⟨k+1,by omega,by go_num,⟨_,by first|rfl|simp only[Dz],YV⟩,AX⟩
     case measure=>simp[intOf];omega
    ·have DW:=Hi (iD (.inr (by omega)));have ak:65535 < y.length:=(by omega);clear NC iD;go_wp2_with fail;refine(mO x _ Em).mono ?_;rintro e w3⟨rfl,Ap⟩;have Au:=bH HB Ap;have c1:w3.cell? ⟨q.block,q.off+1,none⟩=some (.string (bs y)):=(Ap.cell (p:=⟨q.block,q.off+1,none⟩) (Cr c1)).trans c1;clear Ap;go_wp2_with fail;refine(mM y _ ak).mono ?_;rintro e w4⟨rfl,rfl⟩;go_wp2;go_ret2;exact⟨by rw[show V=([],5) from by rw[oC.out,show FO l=none from by rw[Uh.out,DW.out];rfl]];rfl,Au⟩
   ·have DW:=Hi (iD (.inl (by omega)));have Ec:65535 < x.length:=(by omega);clear NC iD;by_cases O1:y.length≤65535
    ·go_wp2_with fail;refine(mM x _ Ec).mono ?_;rintro e w3⟨rfl,rfl⟩;go_wp2_with fail;refine(mO y _ O1).mono ?_;rintro e w4⟨rfl,AB⟩;have AX:=bH HB AB;clear AB;go_wp2;go_ret2;exact⟨by rw[show V=([],5) from by rw[oC.out,show FO l=none from by rw[Uh.out,DW.out];rfl]];rfl,AX⟩
    ·have ak:65535 < y.length:=(by omega);go_wp2_with fail;refine(mM x _ Ec).mono ?_;rintro e w3⟨rfl,rfl⟩;go_wp2_with fail;refine(mM y _ ak).mono ?_;rintro e w4⟨rfl,rfl⟩;go_wp2;go_ret2;exact⟨by rw[show V=([],5) from by rw[oC.out,show FO l=none from by rw[Uh.out,DW.out];rfl]];rfl,HB⟩
  ·obtain rfl:k=l.length:=(by omega);have Ot:=Hi (anh (cap:=cap) (HH.below HB) (by omega));rw[MM HS.out] at Ot
   have HT:=Hi (show FO l=some (A9.le 2 l.length++S) from by
    have:=VF.out;rw[Da] at this;rw[Uh.out,this];rfl)
   go_wp2_with fail;refine Ot.mono ?_;rintro e w4⟨rfl,AB⟩;have AX:=bH HB AB;clear AB;go_wp2;go_ret2;exact⟨by rw[show V=(A9.le 2 l.length++S,0) from by rw[oC.out,HT.out]];rfl,AX⟩
def aqx(w:World)(s:T)(n:Nat)(sv lv iv:Value)(wr:World):Prop:=∃ (i:Nat) (S:T) (l:M),sv=.string (bs S)∧iv=.int .i64 (i:Int)∧nP w s n i S l lv wr
theorem amW(s:T)(L:M)(hL:I1 s=some L)(w:World)(hs:s.length≤1000000000):Calls prog 242 #[.string (bs s)] w fun e w'=>∃ v,e=.returned (.tuple #[v,.int .i64 0])∧BJ w' w.heap.size v L∧Bw w w':=by
 obtain⟨i0,Bl,AY,Ba,Be⟩:=DC Rb;have h2:¬ s.length < 2:=fun h=>by unfold I1 at hL;rw[Ad h] at hL;cases hL
 have GY:∀ W,(Instr.slice 9 (.string (bs s)) none (some (.int .i64 2)) none).run prog W=.ok (.string (bs (s.take 2))) W:=fun W=>O7 prog W 9 underlying9 s 2 (by omega)
 have XO:∀ W,(Instr.slice 9 (.string (bs s)) (some (.int .i64 2)) none none).run prog W=.ok (.string (bs (s.drop 2))) W:=fun W=>ME prog W 9 underlying9 s 2 (by omega)
 have hlt:(s.take 2).length=2:=by rw[AZ];omega
 have hv:=A9.JS (s.take 2);rw[hlt] at hv;have Zc:=Hi (fun(W:World)=>adW (s.take 2) W (by omega));obtain⟨n,hn⟩:=ex (A9.val (s.take 2));have Ep:=Hi (show some L=(Ez (2*n) (s.drop 2)).bind fun q=>if q.2=[]∧CU (Sr q.1) then some (Sr q.1) else none from by rw[←hL];unfold I1;rw[Ab h2,hn]);rw[hn] at Zc hv;have LK:n < 65536:=hv;have hsi:¬ (s.length:Int) < 2:=by omega
 have e2:IntKind.i64.wrap (n:Int)=(n:Int):=ET _ (by omega);clear hn hlt hv hL
 go_in
 go_wp2_with fail;refine(Zc _).mono ?_;rintro e w1⟨rfl,rfl⟩;go_wp2
 go_loopw [0,5,6] (fun sv lv iv wr=>aqx w s n sv lv iv wr) (fun _ _ iv _=>n -(intOf iv).toNat)
 case atStart=>exact⟨0,s.drop 2,[],rfl,rfl,AV _,rfl,by rw[Ct];omega,by simp[flat],by unfold BJ;rw[QC];exact DZ _ _ _ _,Ai _ _⟩
 case round=>
  obtain⟨i,S,l,rfl,rfl,Bc⟩:=hrel;have Bh:=Hi Bc;have Zr:=Bc.short;have hle:=Bc.le;by_cases hlt:i < n
  ·cases hr:Fv S with
   |none=>
    have:=Ep.out;rw[fZ (j:=2*i) (by omega) Bc.read hr] at this;cases this
   |some r=>
    obtain⟨k,n1⟩:=r;obtain⟨_,FU,_⟩:=aM hr;have hV:Fw S=(k,n1,0):=(by unfold Fw;rw[hr]);have Ik:=Hi (fun(W:World)=>vE S W (by omega));rw[hV] at Ik;have EZ:=Hi (gm (j:=2*i) (by omega) Bc.read hr);have hcut:∀ W,(Instr.slice 9 (.string (bs S)) (some (.int .i64 (n1:Int))) none none).run prog W=.ok (.string (bs (S.drop n1))) W:=fun W=>ME prog W 9 underlying9 S n1 FU
    cases DK:Fv (S.drop n1) with
    |none=>
     have:=Ep.out;rw[fZ (j:=2*i+1) (by omega) EZ DK] at this;cases this
    |some r2=>
     obtain⟨v,n2⟩:=r2;obtain⟨_,GM,_⟩:=aM DK;rw[Ct] at GM;have Oz:Fw (S.drop n1)=(v,n2,0):=(by unfold Fw;rw[DK]);have Rx:=Hi (fun(W:World)=>vE (S.drop n1) W (by rw[Ct];omega));rw[Oz] at Rx;have Z4:=Hi (gm (j:=2*i+1) (by omega) EZ DK);have ave:∀ W,(Instr.slice 9 (.string (bs S)) (some (.int .i64 ((n1:Int)+(n2:Int)))) none none).run prog W=.ok (.string (bs (S.drop (n1+n2)))) W:=fun W=>by
      have:=ME prog W 9 underlying9 S (n1+n2) (by omega);rwa[Int.natCast_add] at this
     have ai:IntKind.i64.wrap ((n1:Int)+(n2:Int))=(n1:Int)+(n2:Int):=ET _ (by omega);have D7:(n1:Int)+(n2:Int)≤1000000000:=(by omega);have awn:(n1:Int)+(n2:Int)≤(S.length:Int):=(by omega);have awo:((n1:Int)+(n2:Int)).toNat=n1+n2:=(by omega);have YU:=Hi FU;have NC:=Hi GM;obtain⟨qo,co,rfl⟩:=Bo Bc.row;clear Bc hV hr Oz DK FU GM;go_wp2_with fail;refine(Ik _).mono ?_;rintro e w2⟨rfl,rfl⟩;go_wp2_with fail;refine(Rx _).mono ?_;rintro e w3⟨rfl,rfl⟩;have DX:=Hi Bh.AO.size;go_wp2_with (at_builtin;refine wpList_append_own_at _ rfl _ _ 30 rfl w.heap.size 51 i0 _ 2 32 underlying30 Bl AY Ba Be rfl (by decide) _ l.length _ rfl (Bh.row.alloc _) ⟨wr.heap.size,0,none⟩ 1 1 [.string (bs k),.string (bs v)] rfl rfl (by intro j u hj;rw[add_plain,E5];exact(Dy▸hj)) (by simp[Value.oneCell']) (by unfold maxLen;have:=Bh.len;omega) (by have:=Bh.len;omega) (by have:=DX.out;simp;omega) ?_;intro v' w4 Cb AJ _ hat;obtain⟨gg,cap2,rfl⟩:=ownsRow_succ Cb;have HO:=Hi Cb;have HG:=Hi AJ;clear Cb AJ hat)
     have YY:=Hi (show nP w s n (i+1) (S.drop (n1+n2)) (l++[(k,v)]) (.slice (some ⟨gg,0,none⟩) (l.length+1) cap2) w4 from
      ⟨by omega,by rw[AA,Bh.len];rfl,by rw[Ct];omega,by
       have:=Z4.out;rw[show 2*n -(2*i+1+1)=2*n -2*(i+1) by omega,List.drop_drop] at this;rw[this,aa0]
       congr 1
       funext q
       simp[flat],by unfold BJ;rw[AA,Td];exact HO.out,
       (Bh.AO.alloc Bh.AO.size _).grown HG (by have:=Bh.AO.size;rw[Ay];omega) (fun k e=>E9 Bh.row e)⟩)
     go_roundw
     case rel=>
      first
      |exact⟨i+1,S.drop (n1+n2),l++[(k,v)],rfl,by go_num,YY⟩
      |(repeat apply Exists.intro
        refine⟨?_,rfl⟩;exact⟨i+1,S.drop (n1+n2),l++[(k,v)],rfl,by go_num,YY⟩)
     case measure=>
      show n -((i:Int)+1).toNat < n -((i:Int)).toNat
      omega
  ·obtain rfl:i=n:=(by omega);have Mw:Ez (2*i) (s.drop 2)=some (flat l,S):=by
    rw[Bc.read,Nat.sub_self];simp[Ez]
   have XH:=Ep.out;rw[Mw] at XH;simp only[CL] at XH;rw[vX] at XH;obtain⟨qo,co,rfl,ZV,Zy⟩:=FH Bc.row;have YM:=Hi (anh (cap:=co) (Bf.CX Bc.row) (by have:=Bc.len;omega));clear Bc Mw;by_cases hS:S=[]∧CU l
   ·rw[Ad hS] at XH;obtain⟨hS1,ru⟩:=hS;subst hS1;obtain rfl:L=l:=GQ XH;rw[MM ru] at YM;clear ru XH;go_wp2_with fail;refine YM.mono ?_;rintro e w2⟨rfl,hb⟩;have BX:=Hi (Cg Bh.row hb);have HB:=Hi (Bh.AO.trans (hb.mono Bh.AO.size));clear hb;go_wp2_with fail;exact EU (v:=.tuple #[.slice qo L.length co,.int .i64 0]) (by simp[results,results242,go_sem]) rfl ⟨_,rfl,BX,HB⟩
   ·rw[Ab hS] at XH;cases XH
end Bt
section
open Go.RowKit
open BH
theorem aA8(x:Int)(n:Nat)(h0:0 < n)(hn:n < 32)(w:World):
  Calls prog 283 #[.int .u32 x,.int .i64 n] w fun e w'=>e=.returned (.int .u32 (IA x n))∧w'=w:=by
 have h1:(n:Int) < 32:=by omega
 have h2:(0:Int) < n:=by omega
 go_in
 go_wp2;go_ret;exact⟨rfl,rfl⟩
theorem vF(x:Int)(n:Int)(h0:0 < n)(hn:n < 32)(w:World):
  Calls prog 283 #[.int .u32 x,.int .i64 n] w fun e w'=>e=.returned (.int .u32 (IA x n.toNat))∧w'=w:=by
 obtain⟨m,rfl⟩:=Int.eq_ofNat_of_zero_le (Int.le_of_lt h0);exact aA8 x m (by omega) (by omega) w
theorem aBF(w:World):(Instr.makeSlice 314 (.int .i64 64) (.int .i64 64)).run prog w=.ok (.slice (some ⟨w.heap.size,0,none⟩) 64 64) (w.alloc (.cells (Bp (zeros 64)) 281)):=by
 have ZF:(prog.info? 281).map (fun i=>(i.zero,i.size,i.bytes))=some (some (.int .u32 0),1,4):=by kernel_rfl
 obtain⟨i0,hi,AY,Ba,Be⟩:=DC ZF;have hrun:=run_make (P:=prog) w 314 281 i0 _ underlying314 hi AY .i64 .i64 64 64 (by omega) (Int.le_refl _) (by rw[Be];omega) (by omega);rw[Ba] at hrun;have e:madeCells (Value.int .u32 0).cells ((64:Int).toNat*1)=Bp (zeros 64):=by unfold Bp zeros;kernel_rfl
 rw[e] at hrun;exact hrun
theorem M6{cap g:Nat}(n k:Nat)(hk:k < n)(W:World):(Instr.indexAt 314 (.slice (some ⟨g,0,none⟩) n cap) (.int .i64 (k:Int))).run prog W=.ok (.pointer (some ⟨g,k,none⟩)) W:=by
 have h:=IB prog 314 281 underlying314 1 (by kernel_rfl) ⟨g,0,none⟩ n cap k hk W;rw[add_plain,Nat.mul_one] at h;exact h
theorem aAt(b:List UInt8)(hb:b.length=64)(w:World):
  Calls prog 282 #[.string (bs b)] w fun e w'=>∃ g,e=.returned (.slice (some ⟨g,0,none⟩) 64 64)∧w.heap.size≤g∧w'.heap[g]?=some (.cells (Bp (CY b 48)) 281)∧Bw w w':=by
 have NY:=aBF w
 go_in
 go_wp2
 go_loopw [4] (fun i wr=>∃ k:Nat,k≤16∧i=.int .i64 k∧Bw w wr∧wr.heap[w.heap.size]?=some (.cells (Bp (Tf b k)) 281)) (fun i _=>16 -(intOf i).toNat)
 case atStart=>exact⟨0,by omega,rfl,(Ai _ _).alloc (Ae _) _,AQ _ _⟩
 case round=>
  obtain⟨k,hk,rfl,Dk,Af⟩:=hrel;have HB:=Hi Dk;have HR:=Hi Af;by_cases hlt:k < 16
  ·have Gb:wr.cell? ⟨w.heap.size,k,none⟩=some (.int .u32 ((Tf b k)[k]'(by rw[dz _ _ (by omega)];omega))):=by
    rw[BL _ _ _ _ _ _ Af,Sq _ _ (by rw[dz _ _ (by omega)];omega)]
   have OG:=Dt _ _ k _ _ Af;generalize (Tf b k)[k]'(by rw[dz _ _ (by omega)];omega)=x0 at Gb;have i1:=Yx b (4*k) (by omega) (4*(k:Int)) (by omega);have i2:=Yx b (4*k+1) (by omega) (4*(k:Int)+1) (by omega);have i3:=Yx b (4*k+2) (by omega) (4*(k:Int)+2) (by omega);have i4:=Yx b (4*k+3) (by omega) (4*(k:Int)+3) (by omega);have Cs:=fun W=>M6 (g:=w.heap.size) (cap:=64) 64 k (by omega) W
   clear Dk Af;go_wp2;go_region;go_wp2;go_roundw
   case rel=>exact⟨k+1,by omega,by go_num,((HB.setCell (p:=⟨w.heap.size,k,none⟩) (Ae _) _).drew),by
    have h:=Cu wr w.heap.size k _ _ (.int .u32 (be b k)) HR;rw[vV,ah4 b k (by omega)] at h;exact h⟩
   case measure=>simp[intOf];omega
  ·obtain rfl:k=16:=(by omega);clear Dk Af;go_wp2
   go_loopw [5] (fun i wr=>∃ k:Nat,k≤48∧i=.int .i64 ((16+k:Nat):Int)∧Bw w wr∧wr.heap[w.heap.size]?=some (.cells (Bp (CY b k++zeros (48 -k))) 281)) (fun i _=>64 -(intOf i).toNat)
   case atStart=>exact⟨0,by omega,rfl,HB,HR⟩
   case round=>
    clear HB HR;obtain⟨k,hk,rfl,Dk,Af⟩:=hrel;have HB:=Hi Dk;have HR:=Hi Af;clear Dk Af;by_cases hlt:k < 48
    ·have hlen:=aX b k
     have KP:=Hi (fun(V:World) (h:V.heap[w.heap.size]?=some (.cells (Bp (CY b k++zeros (48 -k))) 281))=>(show(∀ j,j < 16+k→V.cell? ⟨w.heap.size,j,none⟩=some (.int .u32 ((CY b k).getD j 0)))∧(∃ v0,V.cell? ⟨w.heap.size,16+k,none⟩=some v0)∧V.frozen? ⟨w.heap.size,16+k,none⟩=false from by
      have hl:(CY b k++zeros (48 -k)).length=64:=(by rw[AA,hlen];unfold zeros;simp;omega);refine⟨fun j hj=>?_,⟨_,(BL _ _ _ _ _ _ h).trans (Sq _ _ (by omega))⟩,Dt _ _ _ _ _ h⟩;rw[BL _ _ _ _ _ _ h,Sq _ _ (by omega),Sw (by omega),Ig,CJ (by omega)];rfl))
     have Bh:=Hi (show(CY b k++zeros (48 -k)).set (16+k) (aG (CY b k) (16+k))=CY b (k+1)++zeros (48 -(k+1)) from by
      have e:=acw (CY b k) (48 -(k+1)) (aG (CY b k) (16+k));rw[hlen,show 48 -(k+1)+1=48 -k by omega] at e;exact e)
     unfold aG at Bh;obtain⟨t,ht⟩:=ex (16+k);obtain⟨Jp,VX⟩:=ex (t -16);obtain⟨QW,jE⟩:=ex (t -15);obtain⟨j7,h7⟩:=ex (t -7);obtain⟨j2,h2⟩:=ex (t -2);rw[ht] at KP Bh ⊢;rw[VX,jE,h7,h2] at Bh;have e16:(t:Int) -16=(Jp:Int):=(by omega);have e15:(t:Int) -15=(QW:Int):=(by omega);have e7:(t:Int) -7=(j7:Int):=(by omega);have e2:(t:Int) -2=(j2:Int):=(by omega);have b0:(t:Int) < 64:=(by omega);have NA:=Hi (show t+1=16+(k+1)∧k < 48 from by omega);obtain⟨hc,⟨v0,hcz⟩,OG⟩:=KP _ HR.out;have c16:=hc Jp (by omega);have c15:=hc QW (by omega);have c7:=hc j7 (by omega);have c2:=hc j2 (by omega);have aCT:=fun W=>M6 (g:=w.heap.size) (cap:=64) 64 Jp (by omega) W
     have aCR:=fun W=>M6 (g:=w.heap.size) (cap:=64) 64 QW (by omega) W
     have x7i:=fun W=>M6 (g:=w.heap.size) (cap:=64) 64 j7 (by omega) W
     have x2i:=fun W=>M6 (g:=w.heap.size) (cap:=64) 64 j2 (by omega) W
     have xti:=fun W=>M6 (g:=w.heap.size) (cap:=64) 64 t (by omega) W
     have aCU:=aCT;have aCS:=aCR;have x7k:=x7i;have x2k:=x2i;rw[←e16] at aCU;rw[←e15] at aCS;rw[←e7] at x7k;rw[←e2] at x2k;have b16:(Jp:Int) < 64:=(by omega);have b15:(QW:Int) < 64:=(by omega);have b7:(j7:Int) < 64:=(by omega);have b2:(j2:Int) < 64:=(by omega);have w16:IntKind.i64.wrap (Jp:Int)=(Jp:Int):=(by rw[IntKind.wrap];simp[IntKind.bits,IntKind.signed];omega);have w15:IntKind.i64.wrap (QW:Int)=(QW:Int):=(by rw[IntKind.wrap];simp[IntKind.bits,IntKind.signed];omega);have w7:IntKind.i64.wrap (j7:Int)=(j7:Int):=(by rw[IntKind.wrap];simp[IntKind.bits,IntKind.signed];omega);have w2:IntKind.i64.wrap (j2:Int)=(j2:Int):=(by rw[IntKind.wrap];simp[IntKind.bits,IntKind.signed];omega);clear hc hlen ht VX jE h7 h2 hlt hk;obtain⟨WR,fw⟩:=ex ((CY b k).getD Jp 0);obtain⟨Vl,lH⟩:=ex ((CY b k).getD QW 0);obtain⟨x7,V8⟩:=ex ((CY b k).getD j7 0);obtain⟨x2,Ec⟩:=ex ((CY b k).getD j2 0);rw[lH] at c15 Bh;rw[Ec] at c2 Bh;rw[fw] at c16 Bh;rw[V8] at c7 Bh;clear fw lH V8 Ec;go_wp2
     go_region_held3 (fun V=>V.cell? ⟨w.heap.size,QW,none⟩=some (.int .u32 Vl)) (go_keep)
      (first|(go_at_call 283;refine(vF Vl _ (by decide) (by decide) _).mono ?_;rintro e wA ⟨rfl,rfl⟩))
     go_wp2
     go_region_held3 (fun V=>V.cell? ⟨w.heap.size,j2,none⟩=some (.int .u32 x2)) (go_keep)
      (first|(go_at_call 283;refine(vF x2 _ (by decide) (by decide) _).mono ?_;rintro e wA ⟨rfl,rfl⟩))
     go_wp2;go_region;go_wp2_with fail;refine⟨?_,?measure⟩
     ·repeat apply Exists.intro
      refine⟨?rel,rfl⟩
      case rel=>
       refine⟨k+1,by have:=NA.out;omega,by have:=NA.1;go_num,?_,?_⟩
       ·exact(((HB.setCell (p:=⟨w.heap.size,t,none⟩) (Ae _) _).drew).drew).drew
       ·have h:=Cu wr w.heap.size t _ _ (.int .u32 ((sig x2 17 19 10+x7+sig Vl 7 18 3+WR) % 4294967296)) HR.out;have e2:(CY b k++zeros (48 -k)).set t ((sig x2 17 19 10+x7+sig Vl 7 18 3+WR) % 4294967296)=CY b (k+1)++zeros (48 -(k+1)):=by
         rw[show(sig x2 17 19 10+x7+sig Vl 7 18 3+WR) % 4294967296=(((WR+sig Vl 7 18 3) % 4294967296+x7) % 4294967296+sig x2 17 19 10) % 4294967296 by omega];exact Bh.out
        rw[vV,e2] at h;exact h
     show 64 -((t:Int)+1).toNat < 64 -(t:Int).toNat
     omega
    ·obtain rfl:k=48:=(by omega);clear hlt;go_wp2;go_ret;have h:=HR.out;rw[show 48 -48=0 from rfl,show zeros 0=[] from rfl,Ea] at h;exact⟨w.heap.size,rfl,Ae _,h,HB⟩
end
section
open Go.RowKit Go.Maps
open BH
def MZ(w:World)(g:Nat)(l:List Int):Prop:=∀ i,i < l.length→w.cell? ⟨g,i,none⟩=some (.int .u32 (l.getD i 0))
theorem MZ.below{w w':World}{g:Nat}{l:List Int}(h:MZ w g l)(hb:Bw w w'):MZ w' g l:=fun i hi=>by
 have:=h i hi;exact(hb.cell (Cr this)).trans this
theorem wI{w:World}{g:Nat}{l:List Int}{t:TypeId}(h:w.heap[g]?=some (.cells (Bp l) t)):MZ w g l:=fun i hi=>by
 rw[BL _ _ _ _ _ _ h,Sq _ _ hi,Ig,CJ hi];rfl
theorem aBE:(prog.info? 281).map (fun i=>(i.zero,i.size,i.bytes))=some (some (.int .u32 0),1,4):=by kernel_rfl
def Rh(l:List Int):List Value:=l.map fun x=>.int .u32 x
theorem aoC{w:World}{base g n cap:Nat}{l:List Int}(h:w.ownsRow base 281 1 (.slice (some ⟨g,0,none⟩) n cap) n (Rh l)):MZ w g l:=fun i hi=>by
 have hc:=h.cells (g:=g) rfl;have:=hc i (.int .u32 l[i]) (by unfold Rh;rw[Jr,CJ hi];rfl);rw[add_plain] at this;rw[this,Ig,CJ hi];rfl
theorem vC{w:World}{base:Nat}{e:TypeId}{size:Nat}{v:Value}{n:Nat}{xs:List Value}(h:w.ownsRow base e size v n xs){b:Nat}(hb:v.ownBlock=some b):base≤b:=by
 rcases h.2 with⟨rfl,_⟩|⟨g,cap,cur,rfl,I5,_⟩
 ·simp[Value.ownBlock] at hb
 ·simp[Value.ownBlock] at hb;omega
theorem aBf(h V:List Int)(k:Nat)(hk:k < 8):(sumTo h V 8).take (k+1)=(sumTo h V 8).take k++[(h.getD k 0+V.getD k 0) % 4294967296]:=by
 have hl:k < (sumTo h V 8).length:=by rw[mU];exact hk
 rw[Cx hl];have:=adx h V 8 k hk;rw[Ad hk,Ig,CJ hl,Option.getD_some] at this;rw[this]
theorem aBi(a s c k w:Int):((a+s+c+k) % 4294967296+w) % 4294967296=((((a+s) % 4294967296+c) % 4294967296+k) % 4294967296+w) % 4294967296:=by omega
theorem wrap32(x:Int):IntKind.u32.wrap x=x % 4294967296:=by simp[IntKind.wrap,IntKind.bits,IntKind.signed]
theorem azr{w:World}{gh gk ch' zy:Nat}{h:List Int}(b:List UInt8)(hb:b.length=64)(hh:h.length=8)(H:MZ w gh h)(K:MZ w gk Gd):
  Calls prog 275 #[.slice (some ⟨gh,0,none⟩) 8 ch',.slice (some ⟨gk,0,none⟩) 64 zy,.string (bs b)] w fun e w'=>∃ g c,e=.returned (.slice (some ⟨g,0,none⟩) 8 c)∧w.heap.size≤g∧MZ w' g (PD h b)∧Bw w w':=by
 obtain⟨i0,Bl,AY,Ba,Be⟩:=DC aBE;have HH:=Hi H;have HK:=Hi K;clear H K
 go_in
 go_wp2_with fail;refine(aAt b hb _).mono ?_;rintro e w1⟨gw,rfl,hgw,hw,Aj⟩;have HW:=Hi (wI hw);have HB1:=Hi Aj;have X4:=Hi (HH.below Aj);clear hw Aj;have Y7:∀ j u,(Rh h)[j]?=some u→w1.cell? ((⟨gh,0,none⟩:Addr).add j)=some u:=fun j u hu=>by
  have hj:j < h.length:=by
   have:=(U1.1 hu).1;simpa[Rh] using this
  rw[add_plain,X4 j hj];unfold Rh at hu;rw[Jr,CJ hj] at hu;rw[Ig,CJ hj];exact hu
 go_wp2_with (at_builtin;refine wpList_append_own_at w1 rfl _ _ 314 rfl w1.heap.size 281 i0 _ 1 4 underlying314 Bl AY Ba Be rfl (by decide) (.slice none 0 0) 0 [] rfl (DZ _ _ _ _) ⟨gh,0,none⟩ 8 ch' (Rh h) rfl (by simp[Rh,hh]) Y7 (by intro u hu;unfold Rh at hu;obtain⟨x,_,rfl⟩:=Bz.1 hu;rfl) (by unfold maxLen;omega) (by omega) (Ae _) ?_;intro v2 w2 Dn Ef _ _;rw[Ei,Ha] at Dn;obtain⟨g2,cap2,rfl⟩:=ownsRow_succ Dn;have Xg:=Hi (aoC Dn);have Ak:=Hi ((Ai _ w1).grown Ef (Ae _) (fun j e=>by cases e));clear Dn Ef);have RD:=Hi (HW.below Ak);have Ud:=Hi (X4.below Ak);have MP:=Hi ((HK.below HB1).below Ak);have ic:=bH HB1 Ak;have LU:=fun t=>an5 (W:=CY b 48) hh t
 clear Y7 HW X4 HB1 Ak HH HK
 go_loopw [8,9] (fun v i wr=>∃ (t gv cv:Nat),t≤64∧i=.int .i64 (t:Int)∧v=.slice (some ⟨gv,0,none⟩) 8 cv∧MZ wr gv (rounds (CY b 48) h t)∧Bw w2 wr)
  (fun _ i _=>64 -(intOf i).toNat)
 case atStart=>exact⟨0,g2,cap2,by omega,rfl,rfl,Xg,Ai _ _⟩
 case round=>
  obtain⟨t,gv,cv',ht,rfl,rfl,hv,Ac⟩:=hrel;have HV:=Hi hv;have HB:=Hi Ac;clear Xg;by_cases hlt:t < 64
  ·have hl:=LU t;obtain⟨V,PL⟩:=ex (rounds (CY b 48) h t);rw[PL] at hv hl;have hRt:=Hi (show rounds (CY b 48) h (t+1)=turn V (Gd.getD t 0) ((CY b 48).getD t 0) by show turn (rounds (CY b 48) h t) _ _=_;rw[PL]);have c0:=hv 0 (by omega);have c1:=hv 1 (by omega);have c2:=hv 2 (by omega);have c3:=hv 3 (by omega);have c4:=hv 4 (by omega);have c5:=hv 5 (by omega);have c6:=hv 6 (by omega);have c7:=hv 7 (by omega);have ck:=(MP.below Ac) t (by show t < 64;exact hlt);have cw:=(RD.below Ac) t (by rw[aX];omega);unfold turn t1 t2 at hRt;obtain⟨x0,S9⟩:=ex (V.getD 0 0);obtain⟨x1,Em⟩:=ex (V.getD 1 0);obtain⟨x2,Ec⟩:=ex (V.getD 2 0);obtain⟨x3,hx3⟩:=ex (V.getD 3 0);obtain⟨x4,hx4⟩:=ex (V.getD 4 0);obtain⟨x5,fA⟩:=ex (V.getD 5 0);obtain⟨x6,fB⟩:=ex (V.getD 6 0);obtain⟨x7,V8⟩:=ex (V.getD 7 0);obtain⟨xk,lJ⟩:=ex (Gd.getD t 0);obtain⟨xw,Yk⟩:=ex ((CY b 48).getD t 0);rw[S9,Em,Ec,hx3,hx4,fA,fB,V8,lJ,Yk] at hRt;rw[S9] at c0;rw[Em] at c1;rw[Ec] at c2;rw[hx3] at c3;rw[hx4] at c4;rw[fA] at c5;rw[fB] at c6;rw[V8] at c7;rw[lJ] at ck;rw[Yk] at cw;have i0:=fun W=>M6 (g:=gv) (cap:=cv') 8 0 (by omega) W
   have i1:=fun W=>M6 (g:=gv) (cap:=cv') 8 1 (by omega) W
   have i2:=fun W=>M6 (g:=gv) (cap:=cv') 8 2 (by omega) W
   have i3:=fun W=>M6 (g:=gv) (cap:=cv') 8 3 (by omega) W
   have i4:=fun W=>M6 (g:=gv) (cap:=cv') 8 4 (by omega) W
   have i5:=fun W=>M6 (g:=gv) (cap:=cv') 8 5 (by omega) W
   have i6:=fun W=>M6 (g:=gv) (cap:=cv') 8 6 (by omega) W
   have i7:=fun W=>M6 (g:=gv) (cap:=cv') 8 7 (by omega) W
   have ik:=fun W=>M6 (g:=gk) (cap:=zy) 64 t hlt W
   have iw:=fun W=>M6 (g:=gw) (cap:=64) 64 t hlt W
   have hti:(t:Int) < 64:=(by omega);clear hv PL S9 Em Ec hx3 hx4 fA fB V8 lJ Yk hl HV LU;go_wp2
   go_region_held3 (fun V=>V.cell? ⟨gv,4,none⟩=some (.int .u32 x4)) (go_keep)
    (first|(go_at_call 283;refine(vF x4 _ (by decide) (by decide) _).mono ?_;rintro e wA ⟨rfl,rfl⟩))
   go_wp2
   go_region_held3 (fun V=>V.cell? ⟨gv,0,none⟩=some (.int .u32 x0)) (go_keep)
    (first|(go_at_call 283;refine(vF x0 _ (by decide) (by decide) _).mono ?_;rintro e wA ⟨rfl,rfl⟩))
   go_wp2
   go_region_held3 (fun V=>V.cell? ⟨gv,4,none⟩=some (.int .u32 x4)∧V.cell? ⟨gv,5,none⟩=some (.int .u32 x5)∧V.cell? ⟨gv,6,none⟩=some (.int .u32 x6)∧V.cell? ⟨gv,7,none⟩=some (.int .u32 x7)∧V.cell? ⟨gk,t,none⟩=some (.int .u32 xk)∧V.cell? ⟨gw,t,none⟩=some (.int .u32 xw)) (go_keep) (fail)
   simp only[wrap32,show(if IntKind.u32.signed=true then(-1:Int) else IntKind.u32.max)=IntKind.u32.max from rfl];obtain⟨T1,dI⟩:=ex (((((x7+bits .xor .u32 (bits .xor .u32 (IA x4 6) (IA x4 11)) (IA x4 25)) % 4294967296+bits .xor .u32 (bits .and .u32 x4 x5) (bits .and .u32 (bits .xor .u32 IntKind.u32.max x4) x6)) % 4294967296+xk) % 4294967296+xw) % 4294967296);rw[dI];have Je:=Hi dI;clear dI c7 ck cw ik iw i7;go_wp2
   go_region_held3 (fun V=>V.cell? ⟨gv,0,none⟩=some (.int .u32 x0)∧V.cell? ⟨gv,1,none⟩=some (.int .u32 x1)∧V.cell? ⟨gv,2,none⟩=some (.int .u32 x2)) (go_keep) (fail)
   simp only[wrap32];obtain⟨T2,VZ⟩:=ex ((bits .xor .u32 (bits .xor .u32 (IA x0 2) (IA x0 13)) (IA x0 22)+bits .xor .u32 (bits .xor .u32 (bits .and .u32 x0 x1) (bits .and .u32 x0 x2)) (bits .and .u32 x1 x2)) % 4294967296);rw[VZ];have Hf:=Hi VZ;clear VZ;go_wp2
   go_region_held3 (fun V=>V.cell? ⟨gv,0,none⟩=some (.int .u32 x0)∧V.cell? ⟨gv,1,none⟩=some (.int .u32 x1)∧V.cell? ⟨gv,2,none⟩=some (.int .u32 x2)∧V.cell? ⟨gv,3,none⟩=some (.int .u32 x3)∧V.cell? ⟨gv,4,none⟩=some (.int .u32 x4)∧V.cell? ⟨gv,5,none⟩=some (.int .u32 x5)∧V.cell? ⟨gv,6,none⟩=some (.int .u32 x6)) (go_keep) (fail)
   simp only[wrap32];have ZZ:=hRt.out;rw[aBi,Je.out,Hf.out] at ZZ;have HRT:=Hi ZZ;clear ZZ c0 c1 c2 c3 c4 c5 c6 i0 i1 i2 i3 i4 i5 i6;go_wp2;go_roundw
   case rel=>
    refine⟨t+1,wr.heap.size,8,by omega,by go_num,rfl,?_,?_⟩
    ·rw[HRT.out];refine wI (t:=281) ?_;rw[←gK];exact AQ wr _
    ·exact(((((HB.alloc HB.size _).drew).drew).drew).drew).drew
   case measure=>simp[intOf];omega
  ·obtain rfl:t=64:=(by omega);clear hv Ac;have hVl:=LU 64;obtain⟨V,PL⟩:=ex (rounds (CY b 48) h 64);rw[PL] at HV hVl;have HVE:=Hi PL;clear PL LU;have hH:=Ud.below HB.out;have HHR:=Hi hH;have HHB:=Hi HB.out;clear hH;go_wp2_with fail;obtain⟨R,hR⟩:=ex (wr.heap.size);have hRL:w2.heap.size≤R:=(by rw[←hR];exact HB.size);have HKH:=Hi (fun(W:World) (hW:Below R wr W)=>(show MZ W gh h∧MZ W gv V from by rw[←hR] at hW;exact⟨HHR.below hW,HV.below hW⟩))
   go_loopw [14,15] (fun o i wo=>∃ (k:Nat),k≤8∧i=.int .i64 (k:Int)∧wo.ownsRow R 281 1 o k (Rh ((sumTo h V 8).take k))∧Bw w2 wo∧Below R wr wo∧R≤wo.heap.size)
    (fun _ i _=>8 -(intOf i).toNat)
   case atStart=>exact⟨0,by omega,rfl,DZ _ _ _ _,HB,Ai _ _,by omega⟩
   case round=>
    obtain⟨k,hk,rfl,hown,Wl,rM,hRs⟩:=hrel;obtain⟨oq,Iz,rfl⟩:=Bo hown;have HO:=Hi hown;have iq:=Hi Wl;have Rs:=Hi rM;by_cases hlt:k < 8
    ·have ch:=(HKH _ rM).1 k (by omega);have cv:=(HKH _ rM).2 k (by omega);have ih:=fun W=>M6 (g:=gh) (cap:=ch') 8 k hlt W
     have iv:=fun W=>M6 (g:=gv) (cap:=cv') 8 k hlt W
     obtain⟨xh,hxh⟩:=ex (h.getD k 0);obtain⟨xv,WE⟩:=ex (V.getD k 0);rw[hxh] at ch;rw[WE] at cv;have HX:=Hi (Cw hxh WE);have sF:(k:Int) < 8:=(by omega);have hso:=Wl.size;clear hown Wl rM hxh WE;go_wp2_with fail
     go_region_law
      ((refine step_append_lies _ (by rfl) _ _ _ (by rfl) R 281 i0 _ 1 4 underlying314 Bl AY Ba Be (by rfl) (by omega) (.slice oq k Iz) k (Rh ((sumTo h V 8).take k)) (by rfl) ((HO.alloc _).drew) ⟨wr.heap.size,0,none⟩ 1 1 [.int .u32 (IntKind.u32.wrap (xh+xv))] (by rfl) (by rfl) (World.news_of_block (cs:=#[.int .u32 (IntKind.u32.wrap (xh+xv))]) (t:=281) (fr:=(0,0)) (AQ wr _)) (by intro u hu;simp at hu;subst hu;rfl) (by omega) (by unfold maxLen;omega) (by omega) (by rw[show((wr.alloc _).drew).heap.size=wr.heap.size+1 from Ay _ _];omega) (wr.heap.size+1) (by simp) ?_;intro gg pJ w3 RS AJ hat ajJ))
     all_goals
      have VH:=Hi ((((iq.alloc iq.size (.cells #[.int .u32 (IntKind.u32.wrap (xh+xv))] 281)).drew)).grown AJ (Aw hRL (Aw hRs (Nat.le_of_lt (by rw[show((wr.alloc (.cells #[.int .u32 (IntKind.u32.wrap (xh+xv))] 281)).drew).heap.size=wr.heap.size+1 from Ay _ _];omega)))) (fun j hj=>Aw hRL (vC HO hj)));have MS:=Hi ((((Rs.alloc hRs (.cells #[.int .u32 (IntKind.u32.wrap (xh+xv))] 281)).drew)).grown AJ (Aw hRs (Nat.le_of_lt (by rw[show((wr.alloc (.cells #[.int .u32 (IntKind.u32.wrap (xh+xv))] 281)).drew).heap.size=wr.heap.size+1 from Ay _ _];omega))) (fun j hj=>vC HO hj));have Oj:=Hi RS;have V5:=AJ.size;rw[show((wr.alloc (.cells #[.int .u32 (IntKind.u32.wrap (xh+xv))] 281)).drew).heap.size=wr.heap.size+1 from Ay _ _] at V5;clear RS AJ hat ch cv;go_wp2;go_roundw
      case rel=>
       repeat apply Exists.intro
       refine⟨?azO,rfl⟩
       case azO=>
        refine⟨k+1,by omega,by go_num,?_,VH,MS,by omega⟩;rw[aBf h V k hlt,HX.1,HX.2,show Rh ((sumTo h V 8).take k++[(xh+xv) % 4294967296])=Rh ((sumTo h V 8).take k)++[.int .u32 ((xh+xv) % 4294967296)] by unfold Rh;rw[CK];rfl,←wrap32];exact Oj.out
      case measure=>first|(simp[intOf];done)|(simp[intOf];omega)
    ·obtain rfl:k=8:=(by omega);go_wp2;go_ret;obtain⟨gq,ahI,e1,hbq,_⟩:∃ gq ahI,(Value.slice oq 8 Iz)=.slice (some ⟨gq,0,none⟩) 8 ahI∧R≤gq∧True:=by
      rcases hown.2 with⟨e0,e1⟩|⟨g,cap,cur,e0,hb,_⟩
      ·cases e1
      ·exact⟨g,cap,e0,hb,trivial⟩
     injection e1 with e1 _ e2
     subst e1 e2;refine⟨gq,Iz,rfl,by have:=ic.size;omega,?_,ic.trans (Wl.mono ic.size)⟩;have e3:(sumTo h V 8).take 8=PD h b:=by
      rw[Gu (by rw[mU];exact Ae 8),←HVE.out];rfl
     rw[e3] at hown;exact aoC hown
end
namespace BH
open Go.RowKit
theorem agU(h:List Int)(a b:List UInt8)(m:Nat)(ha:a.length=64*m):∀ k,feed h (a++b) (m+k)=feed (feed h a m) b k:=by
 have h0:∀ j,j≤m→feed h (a++b) j=feed h a j:=by
  intro j
  induction j with
  |zero=>intro _;rfl
  |succ j ih=>
   intro hj
   show PD (feed h (a++b) j) (((a++b).drop (64*j)).take 64)=PD (feed h a j) ((a.drop (64*j)).take 64)
   rw[ih (by omega),List.drop_append_of_le_length (by omega),List.take_append_of_le_length (by rw[Ct];omega)]
 intro k
 induction k with
 |zero=>exact h0 m (Ae _)
 |succ k ih=>
  show PD (feed h (a++b) (m+k)) (((a++b).drop (64*(m+k))).take 64)=PD (feed (feed h a m) b k) ((b.drop (64*k)).take 64)
  rw[ih,show 64*(m+k)=a.length+64*k by rw[ha];omega,List.drop_append]
  congr 2
  rw[List.drop_of_length_le (by omega),Ei,show a.length+64*k -a.length=64*k by omega]
def Qa(s:List UInt8):List UInt8:=(s++[128])++List.replicate (zf (s.length+1)) 0++KQ (8*s.length) 8
theorem acP(s:List UInt8):Qa s=s.take (64*(s.length / 64))++LY (leftOf s) s.length:=by
 have e:zf ((leftOf s).length+1)=zf (s.length+1):=by
  unfold leftOf zf;rw[Ct];omega
 unfold Qa LY;rw[e];unfold leftOf;simp only[←Dz];rw[MK]
theorem afQ(v j:Nat):(KQ v j).length=j:=by unfold KQ;simp
theorem amd(s:List UInt8):(Qa s).length=s.length+1+zf (s.length+1)+8:=by
 unfold Qa;simp[afQ];omega
theorem ayN(s:List UInt8):∃ k,(Qa s).length=64*k∧feed Mm (Qa s) k=Ux (Ux Mm s) (LY (leftOf s) s.length):=by
 have hl:=amd s;have hz:=ae3 (s.length+1);obtain⟨k,hk⟩:∃ k,(Qa s).length=64*k:=⟨(Qa s).length / 64,by rw[hl];omega⟩;have ht:(s.take (64*(s.length / 64))).length=64*(s.length / 64):=by rw[AZ];omega
 have hp:(LY (leftOf s) s.length).length=64*(k -s.length / 64):=by
  have:=congrArg List.length (acP s);rw[AA,ht,hk] at this;omega
 have hm:s.length / 64≤k:=by
  have:=congrArg List.length (acP s);rw[AA,ht,hk] at this;omega
 refine⟨k,hk,?_⟩;have h1:=agU Mm (s.take (64*(s.length / 64))) (LY (leftOf s) s.length) (s.length / 64) ht (k -s.length / 64);rw[←acP,show s.length / 64+(k -s.length / 64)=k by omega] at h1;rw[h1];unfold Ux;rw[hp,Nat.mul_div_cancel_left _ (by decide)]
 congr 1
 have h2:=agU Mm (s.take (64*(s.length / 64))) (s.drop (64*(s.length / 64))) (s.length / 64) ht 0;rw[MK] at h2;exact h2.symm
theorem aBd(s:List UInt8)(k:Nat)(h:feed Mm (Qa s) k=Ux (Ux Mm s) (LY (leftOf s) s.length)):Q9 (feed Mm (Qa s) k) 8=EJ s:=by
 rw[h];rfl
theorem asN(h:List Int)(s:List UInt8)(hh:h.length=8):∀ k,(feed h s k).length=8
 |0=>hh
 |_+1=>aqZ _ _
end BH
section
open Go.RowKit Go.Maps
open BH
theorem aBC(w:World):
  Calls prog 239 #[] w fun e w'=>∃ g gh,e=.returned (.tuple #[.slice (some ⟨g,0,none⟩) 64 64,.slice (some ⟨gh,0,none⟩) 8 8])∧MZ w' g Gd∧MZ w' gh Mm∧Bw w w':=by
 have HC:=Hi akY
 go_in
 go_wp2_with fail;rw[HC.out];go_ret2;refine⟨w.heap.size,w.heap.size+1,rfl,(wI (t:=281) (AQ _ _)).below ((Ai _ _).alloc (Ae _) _),wI (t:=281) ?_,((Ai _ _).alloc (Ae _) _).alloc ((Ai _ _).alloc (Ae _) (.cells (Bp Gd) 281)).size _⟩;rw[gK];have h:=AQ (w.alloc (.cells (Bp Gd) 281)) (.cells (Bp Mm) 281);rw[Ay] at h;exact h
def aqt(l:List UInt8)(m:Nat)(v:Value):Prop:=∃ j,j≤m∧v=.string (bs (l++List.replicate j 0))
def adu(v:Value):Nat:=match v with| .string s=>s.size|_=>0
theorem aA3(s:List UInt8)(w:World)(hs:s.length≤100000000):
  Calls prog 274 #[.string (bs s)] w fun e w'=>e=.returned (.string (bs (Qa s)))∧Bw w w':=by
 have KU:({ data:=#[128] }:ByteArray)=bs [128]:=rfl;have V7:IntKind.u64.wrap ((s.length:Int)*8)=(s.length:Int)*8:=IntWalk.u64_in _ (by omega);have RZ:IntKind.u64.wrap (s.length:Int)=(s.length:Int):=IntWalk.u64_in _ (by omega)
 go_in
 go_wp2_with fail;obtain⟨l,hl⟩:=ex (s++[128]);have El:l.length=s.length+1:=by rw[←hl];simp
 obtain⟨m,hm⟩:=ex (zf (s.length+1));have hme:∀ j,j < m→(l.length+j) % 64≠56:=fun j hj=>by rw[El];exact aoO _ _ (by omega)
 have hmz:(l.length+m) % 64=56:=by rw[El,←hm];exact ae3 _
 have ZN:m < 64:=by rw[←hm];exact ae4 _
 have HME:=Hi hme;have HMZ:=Hi hmz;have HP:=Hi (show Qa s=(l++List.replicate m 0)++KQ (8*s.length) 8 by unfold Qa;rw[hl,hm]);have NB:=Hi El;rw[hl];clear hme hmz hl hm El KU V7 RZ
 go_loop [0] (fun v=>aqt l m v) (fun v=>l.length+m -adu v)
 case atStart=>exact⟨0,AV _,by simp⟩
 case round=>
  obtain⟨j,hj,rfl⟩:=hrel;have O0:(l++List.replicate j (0:UInt8)).length=l.length+j:=by simp
  have FE:l++List.replicate j (0:UInt8)++[0]=l++List.replicate (j+1) 0:=by rw[Dz,←List.replicate_succ']
  have Ou:=Hi O0;have Di:=Hi FE;have PY:=NB.out;by_cases hlt:j < m
  ·have hne:=HME j hlt;rw[←O0] at hne;have ag:(l++List.replicate j (0:UInt8)).length≤100000100:=(by rw[O0];omega);clear O0 FE PY;generalize l++List.replicate j (0:UInt8)=t at*;have Aj:((t.length:Int) % 64 == 56)=false:=(by rw[FQ];omega);have Ac:((t.length:Int) % 64 != 56)=true:=(by rw[bne_iff_ne];omega);have hz:({ data:=#[0] }:ByteArray)=bs [0]:=rfl;clear hne;go_wp2
   go_round
   case rel=>exact⟨j+1,hlt,by rw[Di.out]⟩
   case measure=>
    have h1:adu (.string (bs t))=l.length+j:=Ou.out;have h2:adu (.string (bs (t++[0])))=l.length+j+1:=(by show(t++[0]).length=_;rw[AA,Ou.out];rfl);rw[h1,h2];omega
  ·obtain rfl:j=m:=(by omega);have hz:=HMZ.out;rw[←O0] at hz;have ag:(l++List.replicate j (0:UInt8)).length≤100000100:=(by rw[O0];omega);clear O0 FE PY;generalize l++List.replicate j (0:UInt8)=t at*;have Aj:((t.length:Int) % 64 == 56)=true:=(by rw[beq_iff_eq];omega);have Ac:((t.length:Int) % 64 != 56)=false:=(by rw[bne_eq_false_iff_eq];omega);clear hz Di Ou;go_wp2_with fail;have KI:=Hi (show((s.length:Int)*8)=((8*s.length:Nat):Int) by omega);rw[KI.out];obtain⟨v,hv⟩:=ex (8*s.length);have hvb:v≤800000000:=(by omega);rw[hv] at HP ⊢;clear hv KI
   go_loopw [0,4] (fun a i wr=>∃ k:Nat,k≤8∧i=.int .i64 (7 -(k:Int))∧a=.string (bs (t++KQ v k))∧Bw w wr) (fun _ i _=>(intOf i+1).toNat)
   case atStart=>exact⟨0,by omega,rfl,by rw[show KQ v 0=[] from rfl,Ea],Ai _ _⟩
   case round=>
    obtain⟨k,hk,rfl,rfl,Dk⟩:=hrel;have HB:=Hi Dk;by_cases hlt:k < 8
    ·obtain⟨e,he⟩:∃ e:Nat,56 -8*k=e:=⟨_,rfl⟩;obtain⟨q,hq⟩:∃ q:Nat,7 -k=q:=⟨_,rfl⟩;have hqi:7 -(k:Int)=(q:Int):=(by omega);have hei:8*(q:Int)=(e:Int):=(by omega);have ae:=afR v k;rw[he] at ae;have avn:(e:Int)≤56:=(by omega);have ZU:(q:Int)≤7:=(by omega);have hwe:IntKind.u64.wrap (e:Int)=(e:Int):=IntWalk.u64_in _ (by omega);have WE:((UInt8.ofNat (v / 2 ^ e)).toNat:Int)=(v:Int) / 2 ^ e % 256:=by
      rw[YC,Int.natCast_emod,Int.natCast_ediv,Int.natCast_pow];rfl
     have Tq:=adg prog wr 54 5 9 5 underlying54 underlying5 underlying9 ((v:Int) / 2 ^ e % 256) (UInt8.ofNat (v / 2 ^ e)) WE;have CP:(t++KQ v k).length≤100000200:=(by rw[AA,afQ];omega);have Om:=Hi (show t++KQ v k++[UInt8.ofNat (v / 2 ^ e)]=t++KQ v (k+1) by rw[ae,Dz]);have HQ:=Hi (Cw hq hlt);rw[hqi];clear ae he hqi hq hlt hk WE Dk;generalize t++KQ v k=u at*;generalize UInt8.ofNat (v / 2 ^ e)=x at*;go_wp2;go_roundw
     case rel=>
      refine⟨k+1,HQ.2,?_,by rw[Om.out],HB.alloc HB.size _⟩;have:=HQ.out
      show Value.int .i64 ((q:Int) -1)=_
      congr 1
      omega
     case measure=>have:=HQ.out;first|(simp[intOf];done)|(simp[intOf];omega)
    ·obtain rfl:k=8:=(by omega);clear hlt hk Dk;go_wp2;go_ret;exact⟨by rw[HP.out];rfl,HB⟩
end
section
open Go.RowKit Go.Maps
open BH
theorem aBG:(prog.info? 5).map (fun i=>(i.zero,i.size,i.bytes))=some (some (.int .u8 0),1,1):=by kernel_rfl
theorem aoM(x:Int):IntKind.u8.wrap x=x % 256:=by simp[IntKind.wrap,IntKind.bits,IntKind.signed]
theorem aCm(x:Int):Cj (w4 x)=[.int .u8 (x / 16777216 % 256),.int .u8 (x / 65536 % 256),.int .u8 (x / 256 % 256),.int .u8 (x % 256)]:=by
 have hb:∀ y:Int,((UInt8.ofNat (y % 256).toNat).toNat:Int)=y % 256:=fun y=>by rw[YC];omega
 unfold w4;simp only[mZ,gN,hb]
theorem ag4{w:World}{base g n cap:Nat}{l:List UInt8}(_:l.length=n)(h:w.ownsRow base 5 1 (.slice (some ⟨g,0,none⟩) n cap) n (Cj l))(i:Nat)(hi:i < l.length):w.cell? ⟨g,i,none⟩=some (.int .u8 (l[i].toNat:Int)):=by
 have hc:=h.cells (g:=g) rfl;have:=hc i (.int .u8 (l[i].toNat:Int)) (ng l i hi);rwa[add_plain] at this
theorem aAb{w:World}{gh gk:Nat}(s:List UInt8)(hs:s.length≤10000000)(K:MZ w gk Gd)(H:MZ w gh Mm):
  Calls prog 240 #[.string (bs s),.slice (some ⟨gk,0,none⟩) 64 64,.slice (some ⟨gh,0,none⟩) 8 8] w fun e w'=>e=.returned (.string (bs (EJ s)))∧Bw w w':=by
 obtain⟨k,hk,hf⟩:=ayN s;have j3:=Hi (aBd s k hf);have RO:k≤1000000:=by
  have h1:=amd s;have h2:=ae4 (s.length+1);omega
 have aeY:=Hi (aA3 s w (by omega));obtain⟨P,hP⟩:=ex (Qa s);rw[hP] at hk j3 aeY;have HK:=Hi K;have HH:=Hi H;have Qo:=Hi (asN Mm P rfl);obtain⟨i0,Bl,AY,Ba,Be⟩:=DC aBG;clear hf hP K H
 go_in
 go_wp2_with fail;refine aeY.mono ?_;rintro e w1⟨rfl,Aj⟩;have HB1:=Hi Aj;have YS:=Hi (HK.below Aj);have X4:=Hi (HH.below Aj);clear Aj HK HH;go_wp2
 go_loopw [2,7] (fun hv i wr=>∃ (j g c:Nat),j≤k∧i=.int .i64 (64*(j:Int))∧hv=.slice (some ⟨g,0,none⟩) 8 c∧MZ wr g (feed Mm P j)∧Bw w1 wr) (fun _ i _=>64*k -(intOf i).toNat)
 case atStart=>exact⟨0,gh,8,by omega,rfl,rfl,X4,Ai _ _⟩
 case round=>
  obtain⟨j,g,c,hj,rfl,rfl,hw,hb⟩:=hrel;have HW:=Hi hw;have HB:=Hi hb;clear hw hb;by_cases hlt:j < k
  ·have hcut:∀ W,(Instr.slice 9 (.string (bs P)) (some (.int .i64 (64*(j:Int)))) (some (.int .i64 (64*(j:Int)+64))) none).run prog W=.ok (.string (bs ((P.drop (64*j)).take 64))) W:=fun W=>by
    have:=gD prog W 9 underlying9 P (64*j) (64*j+64) (by omega) (by omega);rw[show((64*j:Nat):Int)=64*(j:Int) by omega,show((64*j+64:Nat):Int)=64*(j:Int)+64 by omega] at this;rw[this,List.drop_take,show 64*j+64 -64*j=64 by omega]
   have CP:((P.drop (64*j)).take 64).length=64:=(by rw[AZ,Ct];omega);have Rq:=Hi (azr (w:=wr) (gh:=g) (gk:=gk) (ch':=c) (zy:=64) ((P.drop (64*j)).take 64) CP (Qo j) HW (YS.below HB));have YN:=Hi (show feed Mm P (j+1)=PD (feed Mm P j) ((P.drop (64*j)).take 64) from rfl);have hlP:64*(j:Int) < (P.length:Int):=(by omega);clear CP;generalize (P.drop (64*j)).take 64=X at*;go_wp2_with fail;refine Rq.mono ?_;rintro e w2⟨g2,c2,rfl,_,LX,Ac⟩;have RD:=Hi LX;have Ak:=bH HB Ac;clear LX Ac;go_wp2;go_roundw
   case rel=>exact⟨j+1,g2,c2,by omega,by first|(congr 1;done)|(congr 1;omega),rfl,by rw[YN.out];exact RD.out,Ak⟩
   case measure=>first|(simp[intOf];done)|(simp[intOf];omega)
  ·obtain rfl:j=k:=(by omega);have hlP:¬ 64*(j:Int) < (P.length:Int):=(by omega);obtain⟨F,hF⟩:=ex (feed Mm P j);have XE:F.length=8:=(by rw[←hF];exact Qo j);rw[hF] at HW j3;clear hF;have HA:=bH HB1 HB;go_wp2_with fail;have HFl:=Hi XE;clear XE hlP hlt hk;obtain⟨R,hR⟩:=ex (wr.heap.size);have HWW:=Hi (fun(W:World) (hW:Below R wr W)=>(show MZ W g F from by rw[←hR] at hW;exact HW.below hW));have VE:=Hi (fun(W:World) (hW:Below R wr W)=>(show Bw w W from by rw[←hR] at hW;exact HA.trans (hW.mono HA.size)))
   go_loopw [8,9] (fun o i wo=>∃ (t n:Nat),t≤8∧n=4*t∧i=.int .i64 (t:Int)∧wo.ownsRow R 5 1 o n (Cj (Q9 F t))∧Below R wr wo∧R≤wo.heap.size) (fun _ i _=>8 -(intOf i).toNat)
   case atStart=>exact⟨0,0,by omega,rfl,rfl,by rw[show Q9 F 0=[] from rfl,gN];exact DZ _ _ _ _,Ai _ _,by omega⟩
   case round=>
    obtain⟨t,n,ht,hn,rfl,hown,Wl,hso⟩:=hrel;obtain⟨oq,Iz,rfl⟩:=Bo hown;have HO:=Hi hown;have iq:=Hi Wl;by_cases hlt:t < 8
    ·have ch:=(HWW _ Wl) t (by rw[HFl.out];exact hlt);have ih:=fun W=>M6 (g:=g) (cap:=c) 8 t hlt W
     have Qu:=Hi (amb F t);obtain⟨x,hx⟩:=ex (F.getD t 0);rw[hx] at ch Qu;have hti:(t:Int) < 8:=(by omega);have HN:=Hi (Cw hn hlt);have LK:n≤32:=(by omega);clear hown Wl hx hn hlt ht;go_wp2_with fail
     go_region_law
      ((refine step_append_lies _ (by rfl) _ _ _ (by rfl) R 5 i0 _ 1 1 underlying54 Bl AY Ba Be (by rfl) (by omega) (.slice oq n Iz) n (Cj (Q9 F t)) (by rfl) ((HO.alloc _).drew) ⟨wr.heap.size,0,none⟩ 4 4 [.int .u8 (IntKind.u8.wrap (x / 16777216)),.int .u8 (IntKind.u8.wrap (x / 65536)),.int .u8 (IntKind.u8.wrap (x / 256)),.int .u8 (IntKind.u8.wrap x)] (by rfl) (by rfl) (World.news_of_block (cs:=#[.int .u8 (IntKind.u8.wrap (x / 16777216)),.int .u8 (IntKind.u8.wrap (x / 65536)),.int .u8 (IntKind.u8.wrap (x / 256)),.int .u8 (IntKind.u8.wrap x)]) (t:=5) (fr:=(0,0)) (AQ wr _)) (by intro u hu;simp at hu;rcases hu with rfl|rfl|rfl|rfl<;>rfl) (by omega) (by unfold maxLen;omega) (by omega) (by rw[show((wr.alloc _).drew).heap.size=wr.heap.size+1 from Ay _ _];omega) (wr.heap.size+1) (by simp) ?_;intro gg pJ w3 RS AJ hat ajJ))
     all_goals
      have VH:=Hi ((((iq.alloc hso (.cells #[.int .u8 (IntKind.u8.wrap (x / 16777216)),.int .u8 (IntKind.u8.wrap (x / 65536)),.int .u8 (IntKind.u8.wrap (x / 256)),.int .u8 (IntKind.u8.wrap x)] 5)).drew)).grown AJ (Aw hso (Nat.le_of_lt (by rw[show((wr.alloc (.cells #[.int .u8 (IntKind.u8.wrap (x / 16777216)),.int .u8 (IntKind.u8.wrap (x / 65536)),.int .u8 (IntKind.u8.wrap (x / 256)),.int .u8 (IntKind.u8.wrap x)] 5)).drew).heap.size=wr.heap.size+1 from Ay _ _];omega))) (fun j hj=>vC HO hj));have Oj:=Hi RS;have Jw:=Hi (show R≤w3.heap.size from by have:=AJ.size;rw[show((wr.alloc (.cells #[.int .u8 (IntKind.u8.wrap (x / 16777216)),.int .u8 (IntKind.u8.wrap (x / 65536)),.int .u8 (IntKind.u8.wrap (x / 256)),.int .u8 (IntKind.u8.wrap x)] 5)).drew).heap.size=wr.heap.size+1 from Ay _ _] at this;omega);clear RS AJ hat ch;go_wp2;go_roundw
      case rel=>
       refine⟨t+1,n+4,HN.2,by have:=HN.1;omega,by go_num,?_,VH,Jw⟩;rw[Qu.out,aT,aCm];simp only[←aoM];exact Oj.out
      case measure=>have:=HN.2;first|(simp[intOf];done)|(simp[intOf];omega)
    ·obtain rfl:t=8:=(by omega);have aw4:n=32:=(by omega);subst aw4;obtain⟨gq,e1⟩:∃ gq,oq=some ⟨gq,0,none⟩:=by
      rcases hown.2 with⟨e0,e1⟩|⟨g,cap,cur,e0,hb,_⟩
      ·cases e1
      ·injection e0 with e0;exact⟨g,e0⟩
     subst e1;have QQ:(Q9 F 8).length=32:=acO F 8;have Tq:=aP prog wr 54 5 9 underlying54 underlying5 underlying9 gq 0 32 Iz (Q9 F 8) QQ (fun i hi=>by rw[Ha];exact ag4 QQ hown i hi);rw[j3.out] at Tq;clear hown Wl QQ;go_wp2;go_ret;exact⟨rfl,VE _ iq⟩
theorem ang(s:List UInt8)(hs:s.length≤10000000)(w:World):
  Calls prog 183 #[.string (bs s)] w fun e w'=>e=.returned (.string (bs (EJ s)))∧Bw w w':=by
 go_in
 go_wp2_with fail;refine(aBC _).mono ?_;rintro e w1⟨g,gh,rfl,hk,hh,hb⟩;have HK:=Hi hk;have HH:=Hi hh;have HB:=Hi hb;clear hk hh hb;go_wp2_with fail;refine(aAb s hs HK HH).mono ?_;rintro e w2⟨rfl,Ac⟩;have Ak:=bH HB Ac;clear Ac;go_wp2;go_ret;exact⟨rfl,Ak⟩
