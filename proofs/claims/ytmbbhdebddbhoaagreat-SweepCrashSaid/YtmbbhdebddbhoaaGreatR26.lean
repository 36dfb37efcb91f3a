/- AllS AllM MemK MemL MapK ChgP ManD -/
import Derived.Test.YtmbbhdebddbhoaaGreatR25
set_option maxHeartbeats 4000000
set_option maxRecDepth 100000
set_option linter.all false
namespace Go.Proofs.YtmbbhdebddbhoaaGreat
open Tryz
namespace Al
open Go.RowKit Go.Maps
open Wal Fil Man Prs Kp Cm Hex Sha
structure Lf(w:World)(y:Nat)(A:M):Prop where
 gets:Man.ND w y A
 names:∀ W,Bw w W→Calls prog 112 #[.pointer (some ⟨y,0,none⟩)] W fun e w'=>∃ v,e=.returned v∧w'.ownsRow 0 9 1 v A.length (strCells (A.map (·.1)))∧Bw W w'∧∀ k,v.ownBlock=some k→W.heap.size≤k
 up:Fil.Up A
 good:Fil.Good A
 len:A.length≤1000000
theorem Lf.below{w w':World}{y:Nat}{A:M}(h:Lf w y A)(hb:Bw w w'):Lf w' y A:=
 ⟨Mem.TQ h.gets hb,fun W hW=>h.names W (hb.trans (hW.mono hb.size)),h.up,h.good,h.len⟩
theorem Lf.pE{w w':World}{y:Nat}{A:M}(h:Lf w y A)(hb:Bw w w'):Man.ND w' y A:=Mem.TQ h.gets hb
theorem Lf.short{w:World}{y:Nat}{A:M}(h:Lf w y A)(t:T)(ht:t∈A.map (·.1)):t.length≤1000:=by
 obtain⟨x,hx,rfl⟩:=Bz.1 ht;have:=h.good x hx;unfold Fw at this;have:=(QC this).2.1;omega
theorem agz{fz:Bool}{w:World}{b y n N:Nat}{bl:Nat→Prop}{A:M}(h:EJ fz w b y bl n N A):Lf w y A:=by
 have Im:=ZJ h.up.2.2.2.2;have I9:=Rn A;have E5:=h.up;refine⟨Man.iF h,fun W hW=>(asv (h.below hW)).mono ?_,E5.1,E5.2.1,by omega⟩;rintro e w'⟨v,rfl,p1,_,p2,p3⟩;exact⟨v,rfl,p1,p2,p3⟩
structure Fe(et ct:TypeId)(s:Nat)(w:World)(oc B:Nat)(W:World)(n:Nat)(cs:List Value)(v:Value):Prop where
 Ay:Bw w W
 low:w.heap.size≤oc
 lt:oc < B
 size:B≤W.heap.size
 box:W.heap[oc]?=some (.cells #[v] ct)
 row:W.ownsRow B et s v n cs
section
variable {et ct:TypeId}{s:Nat}{w:World}{oc B:Nat}{W W1 W2:World}{n:Nat}{cs:List Value}{v:Value}
theorem Fe.ne(h:Fe et ct s w oc B W n cs v){k:Nat}(hk:v.ownBlock=some k):k≠oc∧B≤k:=by
 have:=DC h.row hk;have:=h.lt;omega
theorem Fe.upd{F:Nat→Prop}(h:Fe et ct s w oc B W n cs v)(hu:A7 F W W1)(hB:∀ k,F k→w.heap.size≤k)(h1:¬ F oc)(h2:∀ k,v.ownBlock=some k→¬ F k):Fe et ct s w oc B W1 n cs v:=by
 have h3:=h.low;have h4:=h.lt;have h5:=h.size;exact⟨Ca h.Ay hu hB (by omega),h3,h4,Ap h5 hu.size,(hu.block oc (Ai h.box) h1).trans h.box,Bh h.row hu h2⟩
theorem Fe.below(h:Fe et ct s w oc B W n cs v)(hb:Bw W W1):Fe et ct s w oc B W1 n cs v:=h.upd (ub hb) (fun _ f=>f.elim) (fun f=>f) (fun _ _ f=>f)
theorem Fe.put(h:Fe et ct s w oc B W n cs v){k:Nat}{o o':Obj}(ho:W.heap[k]?=some o)(hc:o.isCells=false)(hk:w.heap.size≤k):Fe et ct s w oc B (W.putObj k o') n cs v:=by
 refine h.upd (F:=fun i=>i=k) (A7.of_grownBy (F:=fun i=>i=k) (grownBy_putObj' W k o') (fun i e=>by cases e;rfl)) (fun i e=>by rw[e];exact hk) (fun e=>?_) (fun i hi e=>?_)
 ·rw[←e,h.box] at ho;injection ho with ho
  subst ho;exact absurd hc (by simp[Obj.isCells])
 ·obtain⟨cs,fz,h2⟩:=BQ h.row hi;rw[e,ho] at h2;injection h2 with h2
  subst h2;exact absurd hc (by simp[Obj.isCells])
theorem Fe.raise{B':Nat}(h:Fe et ct s w oc B W 0 [] (.slice none 0 0))(h1:B≤B')(h2:B'≤W.heap.size):Fe et ct s w oc B' W 0 [] (.slice none 0 0):=
 ⟨h.Ay,h.low,DK h.lt h1,h2,h.box,EI _ _ _ _⟩
theorem Fe.add(h:Fe et ct s w oc B W n cs v)(hb:Bw W W1)(hg:W1.grownBy W2 v.ownBlock){v':Value}{n':Nat}{cs':List Value}(ho:W2.ownsRow B et s v' n' cs'):
  Fe et ct s w oc B (W2.setCell ⟨oc,0,none⟩ v') n' cs' v':=by
 have h1:=h.below hb;have h3:=h.low;have h4:=h.lt;have h5:=h1.size;have qx:W2.heap[oc]?=some (.cells #[v] ct):=(hg.block oc (Ai h1.box) (fun e=>(h1.ne e.symm).1 rfl)).trans h1.box;have hu:=(A7.refl (fun k=>k=oc) W2).setCell (p:=⟨oc,0,none⟩) (.inl rfl) v';refine⟨(h1.Ay.grown hg (by omega) (fun k e=>by have:=(h1.ne e).2;omega)).setCell (p:=⟨oc,0,none⟩) h3 v',h3,h4,Ap (Ap h5 hg.size) hu.size,BU W2 oc 0 _ _ v' qx,?_⟩;refine Bh ho hu (fun g hg e=>?_);have:=DC ho hg;omega
theorem Fe.keeps(h:Fe et ct s w oc B W n cs v)(hb:Bw W W1)(hg:W1.grownBy W2 v.ownBlock)(v':Value):KeepsOthers W (W2.setCell ⟨oc,0,none⟩ v'):=by
 have h1:=h.below hb;refine((Uj (ub hb) (fun _ _ f=>f.elim)).trans (KeepsOthers.of_grownBy hg fun j o e ho=>?_)).trans (KeepsOthers.setCell _ _ _);obtain⟨cs,fz,h2⟩:=BQ h1.row e;rw[ho] at h2;injection h2 with h2
 subst h2;rfl
theorem Fe.turned(h:Fe et ct s w oc B W n cs v)(hb:Bw W W1)(hg:W1.grownBy W2 v.ownBlock)(v':Value):A7 (fun k=>k=oc∨B≤k) W (W2.setCell ⟨oc,0,none⟩ v'):=
 ((A7.of_below (F:=fun k=>k=oc∨B≤k) hb).trans (A7.of_grownBy (F:=fun k=>k=oc∨B≤k) hg (fun k e=>.inr ((h.below hb).ne e).2)) (fun _ f=>.inl f)).setCell (p:=⟨oc,0,none⟩) (.inl (.inl rfl)) v'
end
structure MO(w:World)(oc Bx B:Nat)(pv:Value)(ty:TypeId)(q:Option Addr)(c:Nat)(L:List T)(W:World):Prop where
 Ay:Bw w W
 low:w.heap.size≤oc
 lt:oc < Bx
 lt2:Bx < B
 size:B≤W.heap.size
 box:W.heap[Bx]?=some (.cells #[pv] ty)
 row:W.ownsRow 0 9 1 (.slice q L.length c) L.length (strCells L)
 own:∀ k,(Value.slice q L.length c).ownBlock=some k→oc < k∧k < B
section
variable {w W W':World}{oc Bx B:Nat}{pv:Value}{ty:TypeId}{q:Option Addr}{c:Nat}{L:List T}
theorem MO.upd{F:Nat→Prop}(h:MO w oc Bx B pv ty q c L W)(hu:A7 F W W')(hF:∀ k,F k→k=oc∨B≤k):MO w oc Bx B pv ty q c L W':=by
 have h1:=h.low;have h2:=h.lt;have h3:=h.lt2;have h4:=h.size;refine⟨Ca h.Ay hu (fun k f=>by have:=hF k f;omega) (by omega),h1,h2,h3,Ap h4 hu.size,(hu.block Bx (Ai h.box) (fun f=>by have:=hF _ f;omega)).trans h.box,Bh h.row hu (fun k hk f=>?_),h.own⟩;have h5:=h.own k hk;have:=hF k f;omega
theorem MO.below(h:MO w oc Bx B pv ty q c L W)(hb:Bw W W'):MO w oc Bx B pv ty q c L W':=h.upd (ub hb) (fun _ f=>f.elim)
theorem MO.put(h:MO w oc Bx B pv ty q c L W){k:Nat}{o o':Obj}(ho:W.heap[k]?=some o)(hc:o.isCells=false)(hk:w.heap.size≤k):MO w oc Bx B pv ty q c L (W.putObj k o'):=by
 have h1:=h.low;have h2:=h.lt;have h3:=h.lt2;have h4:=h.size;have hu:A7 (fun i=>i=k) W (W.putObj k o'):=A7.of_grownBy (F:=fun i=>i=k) (grownBy_putObj' W k o') (fun i e=>by cases e;rfl);refine⟨Ca h.Ay hu (fun i e=>by rw[e];exact hk) (by omega),h1,h2,h3,Ap h4 hu.size,Um h.box ho hc,Bh h.row hu (fun i hi e=>?_),h.own⟩;obtain⟨cs,fz,h5⟩:=BQ h.row hi;rw[e,ho] at h5;injection h5 with h5
 subst h5;exact absurd hc (by simp[Obj.isCells])
end
structure J6 where
 name:T
 row:Value
 B:Nat
 q:Option Addr
 c:Nat
structure apP(K:Kind)(A:M)(x:J6)(W:World):Prop where
 row:∃ q c,x.row=.slice q ((fileOf K A x.name).getD []).length c∧AO W q ((fileOf K A x.name).getD [])∧(q=none→c=0)∧∀ p,q=some p→(fileOf K A x.name).getD []≠[]→AA W p.block 75
theorem alA{w:World}{base c:Nat}{q:Option Addr}{l:M}(h:Bo w base (.slice q l.length c) l):∀ p,q=some p→l≠[]→AA w p.block 75:=fun p e hne=>by
 subst e;rcases h.2 with⟨e1,e2⟩|⟨g,cap',cur,e1,_⟩
 ·exact absurd (Ld.1 e2) hne
 ·have e2:p=⟨g,0,none⟩:=by injection e1 with e1;injection e1
  subst e2;exact BQ h (by rw[e1];rfl)
def JB(K:Kind)(A:M):List T:=(A.map (·.1)).filter K.ours
def oz(x:J6):Array Value:=#[.string (bs x.name),x.row]
structure Yr(w:World)(oc:Nat)(J:Nat→List T→World→Prop):Prop where
 below:∀ B ks W W',J B ks W→Bw W W'→J B ks W'
 raise:∀ B B' W,J B [] W→B≤B'→B'≤W.heap.size→J B' [] W
 put:∀ B ks W k o o',J B ks W→W.heap[k]?=some o→o.isCells=false→w.heap.size≤k→J B ks (W.putObj k o')
def Rq(w:World)(oc Bx:Nat)(pv:Value)(ty:TypeId)(K:Kind)(A:M)(J:Nat→List T→World→Prop)(xs:List J6)(W:World):Prop:=
 (xs=[]∧Bw w W∧w.heap.size≤oc∧oc < Bx∧W.heap[Bx]?=some (.cells #[pv] ty)∧∃ B,B≤W.heap.size∧J B [] W)∨
 ∃ B q c,MO w oc Bx B pv ty q c (A.map (·.1)) W∧(∀ x∈xs,x.B=B∧x.q=q∧x.c=c)∧(∃ ts,xs.map (·.name)++ts=JB K A)∧J B (xs.map (·.name)) W
def VU(w:World)(oc Bx:Nat)(pv:Value)(ty:TypeId)(K:Kind)(A:M)(J:Nat→List T→World→Prop)(xs:List J6)(x:J6)(W:World):Prop:=
 MO w oc Bx x.B pv ty x.q x.c (A.map (·.1)) W∧(∀ z∈xs,z.B=x.B∧z.q=x.q∧z.c=x.c)∧(∃ ts,xs.map (·.name)++x.name :: ts=JB K A)∧J x.B (xs.map (·.name)) W∧apP K A x W
theorem axo{W:World}{q:Option Addr}{l:M}(h:AO W q l){k:Nat}{o o':Obj}(ho:W.heap[k]?=some o)(hc:o.isCells=false):AO (W.putObj k o') q l:=fun i hi=>by
 obtain⟨p,e,hp⟩:=h i hi;exact⟨p,e,yG hp.key ho hc,yG hp.val ho hc⟩
section
variable {w:World}{oc Bx:Nat}{pv:Value}{ty:TypeId}{K:Kind}{A:M}{J:Nat→List T→World→Prop}
theorem yj(hJ:Yr w oc J){B0:Nat}(hB:w.heap.size≤B0)(xs:List J6):NU B0 (Rq w oc Bx pv ty K A J xs):=by
 constructor
 ·intro V k o o' hk h ho hc;rcases h with⟨h1,h2,h3,h4,h5,B,h6,h7⟩|⟨B,q,c,h1,hg,h2,h3⟩
  ·have hu:A7 (fun i=>i=k) V (V.putObj k o'):=A7.of_grownBy (F:=fun i=>i=k) (grownBy_putObj' V k o') (fun i e=>by cases e;rfl);refine .inl ⟨h1,Ca h2 hu (fun i e=>by rw[e];omega) h2.size,h3,h4,Um h5 ho hc,B,Ap h6 hu.size,hJ.put _ _ _ _ _ _ h7 ho hc (by omega)⟩
  ·exact .inr ⟨B,q,c,h1.put ho hc (by omega),hg,h2,hJ.put _ _ _ _ _ _ h3 ho hc (by omega)⟩
 ·intro V o h;have hb:=Aw V o;rcases h with⟨h1,h2,h3,h4,h5,B,h6,h7⟩|⟨B,q,c,h1,hg,h2,h3⟩
  ·exact .inl ⟨h1,h2.trans (hb.mono h2.size),h3,h4,(hb.block _ (Ai h5)).trans h5,B,Ap h6 hb.size,hJ.below _ _ _ _ h7 hb⟩
  ·exact .inr ⟨B,q,c,h1.below hb,hg,h2,hJ.below _ _ _ _ h3 hb⟩
theorem ym(hJ:Yr w oc J){B0:Nat}(hB:w.heap.size≤B0)(xs:List J6)(x:J6):NU B0 (VU w oc Bx pv ty K A J xs x):=by
 constructor
 ·rintro V k o o' hk ⟨h1,hg,h2,h3,⟨q2,c2,e,hp,hq,Qg⟩⟩ ho hc
  exact⟨h1.put ho hc (by omega),hg,h2,hJ.put _ _ _ _ _ _ h3 ho hc (by omega),⟨q2,c2,e,axo hp ho hc,hq,fun p e1 e2=>by
   obtain⟨cs,fr,hb⟩:=Qg p e1 e2
   exact⟨cs,fr,by
    rw[World.putObj_heap_other (fun e=>?_)]
    ·exact hb
    ·subst e;rw[hb] at ho;injection ho with ho
     subst ho;cases hc⟩⟩⟩
 ·rintro V o ⟨h1,hg,h2,h3,⟨q2,c2,e,hp,hq,Qg⟩⟩;have hb:=Aw V o
  exact⟨h1.below hb,hg,h2,hJ.below _ _ _ _ h3 hb,⟨q2,c2,e,hp.below hb,hq,fun p e1 e2=>by
   obtain⟨cs,fr,A8⟩:=Qg p e1 e2;exact⟨cs,fr,(hb.block _ (Ai A8)).trans A8⟩⟩⟩
theorem yn{xs:List J6}{x:J6}{W W':World}(h:MO w oc Bx x.B pv ty x.q x.c (A.map (·.1)) W)(hg:∀ z∈xs,z.B=x.B∧z.q=x.q∧z.c=x.c)(hs:∃ ts,xs.map (·.name)++x.name :: ts=JB K A)(hu:A7 (fun k=>k=oc∨x.B≤k) W W')(hj:J x.B (xs.map (·.name)++[x.name]) W'):Rq w oc Bx pv ty K A J (xs++[x]) W':=by
 obtain⟨ts,hs⟩:=hs;refine .inr ⟨x.B,x.q,x.c,h.upd hu (fun _ f=>f),fun z hz=>?_,⟨ts,?_⟩,?_⟩
 ·rcases Fp.1 hz with e|e
  ·exact hg z e
  ·rw[EX.1 e];exact⟨rfl,rfl,rfl⟩
 ·rw[CF,Dp,←hs];rfl
 ·rw[CF];exact hj
end
end Al
namespace Mem
open Go.RowKit Go.Maps
open Wal Fil Man Prs Kp Cm Hex Sha Al
theorem ac9{L:List T}{f:T→Bool}{k:Nat}(hk:k < L.length):(L.take (k+1)).filter f=(L.take k).filter f++(if f L[k]=true then[L[k]] else[]):=by
 rw[Cw hk,Ro]
 congr 1
 by_cases h:f L[k]=true<;>simp[h]
theorem agA{L:List T}{f:T→Bool}{k:Nat}(hk:k < L.length)(h:f L[k]=true):(L.take k).filter f++L[k] :: (L.drop (k+1)).filter f=L.filter f:=by
 conv=>rhs;rw[←M4 (k+1) L,Ro,ac9 hk,Ab h]
 simp
def mg(w:World)(oc Bx B:Nat)(pv:Value)(ty:TypeId)(q:Option Addr)(c:Nat)(K:Kind)(A:M)(J:Nat→List T→World→Prop)(Bk:World→Prop)(i:Value)(wr:World):Prop:=
 ∃ (k:Nat) (xs:List J6),k≤A.length∧i=.int .i64 k∧MO w oc Bx B pv ty q c (A.map (·.1)) wr∧(∀ z∈xs,z.B=B∧z.q=q∧z.c=c)∧xs.map (·.name)=((A.map (·.1)).take k).filter K.ours∧J B (xs.map (·.name)) wr∧Bk wr
theorem awd(n:Nat)(hn:1≤n){w:World}{p y:Nat}{A:M}(hm:Fb w p y)(hf:Lf w y A)(oc Bx:Nat){J:Nat→List T→World→Prop}(hJ:Yr w oc J)(w1:World):
  Yv n prog 117 #[.pointer (some ⟨Bx,0,none⟩)] oz (Rq w oc Bx (.pointer (some ⟨p,0,none⟩)) 36 Ae A J) (VU w oc Bx (.pointer (some ⟨p,0,none⟩)) 36 Ae A J) (fun xs=>xs.map (·.name)=JB Ae A) w1:=by
 intro l Bk W TS hY hW h0 hk0;have zL:Bw w W∧w.heap.size≤oc∧oc < Bx∧W.heap[Bx]?=some (.cells #[.pointer (some ⟨p,0,none⟩)] 36)∧∃ B,B≤W.heap.size∧J B [] W:=by
  rcases h0 with⟨-,h⟩|⟨B0,q0,c0,g1,-,g2,g3⟩
  ·exact h
  ·exact⟨g1.Ay,g1.low,g1.lt,g1.box,B0,g1.size,g3⟩
 obtain⟨g1,g2,g3,g4,B0,g5,g6⟩:=zL;clear h0;have NZ:W.cell? ⟨Bx,0,none⟩=some (.pointer (some ⟨p,0,none⟩)):=cr g4;have SB:=(hm.below g1).cell;have IC:=Hi (hf.names W g1);have G1:=Hi g1;have G2:=Hi g2;have G3:=Hi g3;have G4:=Hi g4;have G5:=Hi g5;have G6:=Hi g6;have Jk:=Hi hk0;have QE:=Hi TS;have HJ:=Hi hJ;have HM:=Hi hm;have HF:=Hi hf;have hlen:=hf.len;clear g1 g2 g3 g4 g5 g6 hk0 TS hJ hm hf;refine callsIn_of_wp func117 rfl trivial ?_ rfl;simp only[ntmps117,JG,Br,Ig,Nat.reduceAdd,Nat.reduceSub,LX,LY,M3,LZ,Eu,GI]
 gi_wp2
 refine⟨trivial,(Di.2 IC).mono ?_⟩;rintro e w2⟨v,rfl,Ah,A8,hown⟩;have Ag:=Hi (G1.trans (A8.mono G1.size));have ja:Bk w2:=QE _ _ Jk (Uj (ub A8) (fun _ _ f=>f.elim));have KN:J w2.heap.size [] w2:=HJ.raise _ _ _ (HJ.below _ _ _ _ G6 A8) (Ap G5 A8.size) (Ac _);obtain⟨q,c,rfl⟩:∃ q c,v=.slice q (A.map (·.1)).length c:=by
  rw[Cf];exact Bg Ah
 have Vd:MO w oc Bx w2.heap.size (.pointer (some ⟨p,0,none⟩)) 36 q c (A.map (·.1)) w2:=⟨Ag,G2,G3,DK (Ai G4) A8.size,Ac _,(A8.block _ (Ai G4)).trans G4,by rw[Cf] at Ah ⊢;exact Ah,fun k hk=>⟨DK (Nat.lt_trans G3 (Ai G4)) (hown k hk),by
  obtain⟨cs,fz,h⟩:=BQ Ah hk;exact Ai h⟩⟩
 have Ru:=Hi Vd;have Y6:=Hi KN;have fA:=Hi ja;generalize w2.heap.size=B at*;clear Vd KN ja Ah A8 hown IC G1 G2 G3 G4 G5 G6 Jk;have Yb:=Hi (show ∀ t∈A.map (·.1),t.length≤1000 from fun t ht=>HF.short t ht);have EB:((A.map (·.1)).length:Int)=(A.length:Int):=by rw[Cf]
 gi_wp2
 gi_loopw [16] (fun i wr=>mg w oc Bx B (.pointer (some ⟨p,0,none⟩)) 36 q c Ae A J Bk i wr) (fun i _=>A.length -(intOf i).toNat)
 case atStart=>exact⟨0,[],AB _,rfl,Ru,fun z hz=>by simp at hz,rfl,Y6,fA⟩
 case round=>
  obtain⟨k,xs,hk,rfl,h1,jq,h2,h3,h4⟩:=hrel;have Y3:=Hi jq;have H1:=Hi h1;have H2:=Hi h2;have H3:=Hi h3;have H4:=Hi h4;clear h2 h3 h4 jq Ru Y6 fA;by_cases hlt:k < A.length
  ·have Sz:k < (A.map (·.1)).length:=(by rw[Cf];exact hlt);obtain⟨a,Cu,c0⟩:=(Ea (c:=c) h1.row).index c k Sz;simp only[Cf] at Cu;have Jw:∀ t∈A.map (·.1),t.length≤1000:=Yb.out;have Ki:=Jw _ (Ci Sz);have BN:=Hi (ac9 (f:=Ae.ours) Sz);have Yk:=Hi (agA (f:=Ae.ours) Sz);generalize (A.map (·.1))[k]=name at*;have HO:=Hi (awu name wr (by omega));clear Jw;have YM:wr.cell? ⟨Bx,0,none⟩=some (.pointer (some ⟨p,0,none⟩)):=cr h1.box;have OJ:=h1.Ay;have Bc:=Hi OJ;clear h1 OJ
   gi_wp2
   refine⟨trivial,(Di.2 HO).mono ?_⟩;rintro e w3⟨rfl,Ak⟩;have aar:w3.cell? ⟨Bx,0,none⟩=some (.pointer (some ⟨p,0,none⟩)):=(Ak.cell (BS YM)).trans YM;have Hy:=Hi (H1.below Ak);have fV:=Hi (HJ.below _ _ _ _ H3 Ak);have M8:=Hi (QE _ _ H4 (Uj (ub Ak) (fun _ _ f=>f.elim)));clear Ak Cu c0 HO YM;cases SF:Ae.ours name with
   |false=>
    have HX:=Hi (show xs.map (·.name)=((A.map (·.1)).take (k+1)).filter Ae.ours from by rw[BN.out,SF,H2.out];simp);clear BN Yk SF
    gi_wp2
    go_roundw
    case rel=>exact⟨k+1,xs,by omega,by go_num,Hy,Y3,HX,fV,M8⟩
    case measure=>
     show A.length -((k:Int)+1).toNat < A.length -((k:Int)).toNat
     omega
   |true=>
    have HX:=Hi (show xs.map (·.name)++[name]=((A.map (·.1)).take (k+1)).filter Ae.ours from by rw[BN.out,SF,H2.out];simp);have xx:=Hi (show xs.map (·.name)++name :: ((A.map (·.1)).drop (k+1)).filter Ae.ours=JB Ae A from by rw[H2.out];exact Yk SF);have Gr:=Hi (sG (HM.below (Hy.Ay)) (HF.pE Hy.Ay) name Ki);clear BN Yk SF
    gi_wp2
    refine⟨trivial,(Di.2 Gr).mono ?_⟩;rintro e w4⟨q2,c2,rfl,Ah,Gz,Ar⟩;have NP:=Hi (Hy.below Ar);have vW:=Hi (HJ.below _ _ _ _ fV Ar);have Wl:=Hi (QE _ _ M8 (Uj (ub Ar) (fun _ _ f=>f.elim)));obtain⟨x,FH,Hm,SS,VE,VD⟩:∃ x:J6,x.name=name∧x.row=.slice q2 ((fileOf Ae A name).getD []).length c2∧x.B=B∧x.q=q∧x.c=c:=⟨⟨name,_,B,q,c⟩,rfl,rfl,rfl,rfl,rfl⟩;have Xa:VU w oc Bx (.pointer (some ⟨p,0,none⟩)) 36 Ae A J xs x w4:=⟨by rw[SS,VE,VD];exact NP.out,by rw[SS,VE,VD];exact Y3.out,⟨_,by rw[FH];exact xx.out⟩,by rw[SS];exact vW.out,⟨q2,c2,by rw[FH];exact Hm,by rw[FH];exact AO.CG Ah,Gz,by rw[FH];exact alA Ah⟩⟩;obtain⟨fn,tmps,assign,body,hy,hR⟩:=hY xs _ w4 Xa Wl.out;have HR:=Hi hR;unfold oz at hy;rw[FH,Hm] at hy;have xG:=Hi (show(xs++[x]).map (·.name)=((A.map (·.1)).take (k+1)).filter Ae.ours from by rw[CF,List.map_singleton,FH];exact HX.out);have xK:=Hi (show x.B=B∧x.q=q∧x.c=c from⟨SS,VE,VD⟩);have gW:=Hi (show x∈xs++[x] from by simp);generalize (xs++[x])=xs2 at*;clear FH Hm SS VE VD hR Xa Ah Ar aar;generalize ((fileOf Ae A name).getD []).length=ln at*
    gi_wp2
    refine HR.mono ?_;rintro e w5⟨rfl,h5,h6⟩
    have CU:=Hi (show mg w oc Bx B (.pointer (some ⟨p,0,none⟩)) 36 q c Ae A J Bk (.int .i64 ((k:Int)+1)) w5 from by
     rcases h5 with⟨e,-⟩|⟨B',q',c',k1,k2,k3,k4⟩
     ·have:=gW.out;rw[e] at this;simp at this
     ·obtain⟨e1,e2,e3⟩:=k2 _ gW;obtain⟨f1,f2,f3⟩:=xK.out;obtain rfl:B'=B:=e1.symm.trans f1;obtain rfl:q'=q:=e2.symm.trans f2;obtain rfl:c'=c:=e3.symm.trans f3;exact⟨k+1,xs2,by omega,by go_num,k1,k2,xG,k4,h6⟩)
    clear h5 h6 hy HR
    gi_wp2
    go_roundw
    case rel=>exact CU.out
    case measure=>
     show A.length -((k:Int)+1).toNat < A.length -((k:Int)).toNat
     omega
  ·obtain rfl:k=A.length:=by omega
   have HE:=Hi (show xs.map (·.name)=JB Ae A from by
    rw[H2.out,Gn (by rw[Cf];exact Ac _)];rfl)
   clear h1
   gi_wp2
   go_end0
   exact⟨⟨_,rfl⟩,xs,HE,.inr ⟨B,q,c,H1,Y3,⟨[],by rw[EH,HE.out]⟩,H3⟩,H4.out⟩
end Mem
namespace Mem
open Go.RowKit Go.Maps
open Wal Fil Man Prs Kp Cm Hex Sha Al
attribute [local go_sem] Om
attribute [local go_sem ↓] nS
theorem adu{α:Type}{P:Program}{n:Nat}{g:Operand}{q1 q2 s:Nat}{assign body:Code}{Q:Exit→Act→World→Prop}{a:Act}{w:World}(h1:1≤n)
  {gf:Nat}{lb:Array Value}(hg:a.eval g=.func (.func gf) #[] lb)(eg:∀ args w,(callFunc gf args).run P w=.ok (.enter gf args) w){e1 e2:α→Value}
  {Ia:List α→World→Prop}{Iy:List α→α→World→Prop}{S:List α→Prop}(WT:∀ xs,NU w.heap.size (Ia xs))(iM:∀ xs x,NU w.heap.size (Iy xs x))
  (MC:Yv (n -1) P gf lb (fun x=>#[e1 x,e2 x]) Ia Iy S w)(h0:Ia [] w)
  (j4:∀ (l:Nat) (x:α) (W:World) (K:Act→World→Prop),K { tmps:=((a.tmps.setIfInBounds q1 (e1 x)).setIfInBounds q2 (e2 x)).setIfInBounds s (e2 x),defers:=[] } W→
   assign.wpIn (Fence.wide.inRound l) (n -1 -1) P (Exit.then K (fun _ _ _=>False)) { tmps:=(a.tmps.setIfInBounds q1 (e1 x)).setIfInBounds q2 (e2 x),defers:=[] } W)
  (jc:∀ (l:Nat) (pre:List α) (x:α) (W:World),Iy pre x W→body.wpIn (Fence.wide.inRound l) (n -1 -1) P (ade Ia (pre++[x]) W) { tmps:=((a.tmps.setIfInBounds q1 (e1 x)).setIfInBounds q2 (e2 x)).setIfInBounds s (e2 x),defers:=[] } W)
  (U2:∀ (D:Nat) (xs:List α) (W:World),w.heap.size≤D→S xs→Ia xs W→W.heap[D]?=some (.deferred (some []))→Q .normal { a with defers:={ target:=.collected D,args:=#[] } :: a.defers } W):
  (Code.rangeFunc g #[q1,q2] assign body).wpIn Fence.wide n P Q a w:=
 adv h1 hg eg (fun _=>rfl) WT iM MC h0 (fun x=>{ tmps:=((a.tmps.setIfInBounds q1 (e1 x)).setIfInBounds q2 (e2 x)).setIfInBounds s (e2 x),defers:=[] }) (fun l x W K hK=>by
  have hz:(#[q1,q2].zip #[e1 x,e2 x])=#[(q1,e1 x),(q2,e2 x)]:=by simp
  rw[hz];exact j4 l x W K hK) jc U2
theorem axn{W:World}{B n:Nat}{v:Value}{l k:M}(h:W.ownsRow B 75 2 v n (Da l)){q:Option Addr}{cap:Nat}(hk:AO W q k)(hq:q=none→cap=0)(hn:n+k.length≤1000000000)(hb:B≤W.heap.size):
  ∃ v' w2,(Yy #[22,22] 22 #[v,.slice q k.length cap]).run prog W=.ok v' w2∧w2.ownsRow B 75 2 v' (n+k.length) (Da (l++k))∧W.grownBy w2 v.ownBlock:=by
 obtain⟨i0,Ba,AQ,AU,AV⟩:=Du Qu;cases q with
 |none=>
  obtain rfl:k=[]:=by
   cases k with
   |nil=>rfl
   |cons y k=>
    obtain⟨p,hp,_⟩:=hk 0 (by simp);cases hp
  rw[hq rfl];refine⟨v,W,run_append_owned_none (P:=prog) (w:=W) B 22 22 75 i0 2 underlying22 Ba v n (Da l) h,?_,World.grownBy.refl W _⟩;rw[EH];exact h
 |some ad=>
  obtain⟨v',w2,h1,h2,h3,_,_⟩:=run_append_own_at (P:=prog) W B 22 22 75 i0 _ 2 32 underlying22 Ba AQ AU AV rfl (by decide) v n (Da l) h ad k.length cap (Da k) (bf k) hk.cells (agt k) (by unfold maxLen;omega) (by omega) hb;exact⟨v',w2,h1,by rw[ags];exact h2,h3⟩
def Jh(K:Kind)(A:M)(ks:List T):M:=ks.flatMap fun t=>(fileOf K A t).getD []
theorem kY(K:Kind)(A:M)(ks:List T)(t:T):Jh K A (ks++[t])=Jh K A ks++(fileOf K A t).getD []:=by
 unfold Jh;rw[NA];simp
theorem tY{K:Kind}{A:M}(hu:Up A):Jh K A (JB K A)=Ed K A:=by
 unfold Jh JB Ed
 suffices ∀ L:M,(∀ p∈L,p∈A)→(((L.map (·.1)).filter K.ours).flatMap fun t=>(fileOf K A t).getD [])=L.flatMap fun p=>if K.ours p.1=true then(K.Df p.1 p.2).getD [] else[] from this A fun p h=>h
 intro L
 induction L with
 |nil=>exact fun _=>rfl
 |cons p L ih=>
  intro h;have e:(fileOf K A p.1).getD []=(K.Df p.1 p.2).getD []:=by
   unfold fileOf;rw[get_mem hu (show(p.1,p.2)∈A from h p (by simp))];rfl
  rw[BL,List.filter_cons,List.flatMap_cons,←ih fun x hx=>h x (DT _ hx)];by_cases ho:K.ours p.1=true
  ·rw[Ab ho,Ab ho,List.flatMap_cons,e]
  ·rw[Aa ho,Aa ho,Eu]
theorem amo{K:Kind}{A:M}{ks ts:List T}:(Jh K A ks).length≤(Jh K A (ks++ts)).length:=by
 unfold Jh;rw[NA,Au];omega
theorem yl{w:World}{oc Bx:Nat}{pv:Value}{ty:TypeId}{K:Kind}{A:M}{J:Nat→List T→World→Prop}{xs:List J6}{W:World}(h:Rq w oc Bx pv ty K A J xs W):∃ B,J B (xs.map (·.name)) W:=by
 rcases h with⟨rfl,-,-,-,-,B,-,h⟩|⟨B,q,c,-,-,-,h⟩
 ·exact⟨B,h⟩
 ·exact⟨B,h⟩
def JP(K:Kind)(A:M)(w:World)(oc B:Nat)(ks:List T)(W:World):Prop:=
 ∃ v,Fe 75 22 2 w oc B W (Jh K A ks).length (Da (Jh K A ks)) v∧(ks=[]→v=.slice none 0 0)
theorem abI(K:Kind)(A:M)(w:World)(oc:Nat):Yr w oc (JP K A w oc) where
 below:=fun B ks W W' ⟨v,h1,h2⟩ hb=>⟨v,h1.below hb,h2⟩
 raise:=fun B B' W ⟨v,h1,h2⟩ hb hs=>by
  have e:=h2 rfl;subst e;have e2:Jh K A []=[]:=rfl;rw[e2,PV] at h1;exact⟨_,by rw[e2,PV];exact Fe.raise h1 hb hs,fun _=>rfl⟩
 put:=fun B ks W k o o' ⟨v,h1,h2⟩ ho hc hk=>⟨v,h1.put ho hc hk,h2⟩
theorem awe(p:Nat)(w:World):
  Calls prog 48 #[.pointer (some ⟨p,0,none⟩)] w fun e w'=>e=.returned (.func (.func 117) #[] #[.pointer (some ⟨w.heap.size,0,none⟩)])∧w'=w.alloc (.cells #[.pointer (some ⟨p,0,none⟩)] 36):=by
 go_enter func48,ntmps48;go_wp2_with fail;go_ret;exact⟨rfl,rfl⟩
theorem sD{w:World}{p y:Nat}{A:M}(hm:Fb w p y)(hf:Lf w y A)(hl:(Ed Ae A).length≤1000000):
  Calls prog 25 #[.pointer (some ⟨p,0,none⟩)] w fun e w'=>∃ v,e=.returned v∧Man.Bp w' w.heap.size v (Bj Ae A)∧Bw w w':=by
 refine(Di (n:=3)).1 ?_;have P6:prog.follows .mixedOrders=true:=by kernel_rfl
 have HM:=Hi hm;have HF:=Hi hf;have HE:=Hi (tY (K:=Ae) hf.up);have HL:=Hi hl;clear hm hf hl;refine callsIn_of_wp_marks func25 rfl trivial ?_ rfl;simp only[ntmps25,JG,Br,Ig,Nat.reduceAdd,Nat.reduceSub,LX,LY,M3,LZ,Eu,GI]
 gi_wp2
 have Bq:=Aw w (.cells #[.slice none 0 0] 22);have Mv:Fe 75 22 2 w w.heap.size (w.heap.size+1) (w.alloc (.cells #[.slice none 0 0] 22)) 0 [] (.slice none 0 0):=⟨Bq,Ac _,Nat.lt_succ_self _,by rw[Aq];exact Ac _,AJ w _,EI _ _ _ _⟩;have Wo:=Hi Mv;refine⟨trivial,(Di.2 (awe p _)).mono ?_⟩;rintro e w2⟨rfl,Ns⟩;subst Ns
 gi_wp2
 have Hu:=Hi (AJ (w.alloc (.cells #[.slice none 0 0] 22)) (.cells #[.pointer (some ⟨p,0,none⟩)] 36));have A8:=Aw (w.alloc (.cells #[.slice none 0 0] 22)) (.cells #[.pointer (some ⟨p,0,none⟩)] 36);have DN:=Hi (Wo.below A8);have EZ:=Hi (Aq w (.cells #[.slice none 0 0] 22));obtain⟨Bx,K8⟩:=ex ((w.alloc (.cells #[.slice none 0 0] 22)).heap.size);rw[K8] at Hu EZ;rw[show w.heap.size+1=Bx from EZ.symm];obtain⟨U,hU⟩:=ex ((w.alloc (.cells #[.slice none 0 0] 22)).alloc (.cells #[.pointer (some ⟨p,0,none⟩)] 36));rw[hU] at Hu DN ⊢;clear Bq A8 Mv Wo K8 hU;refine adu (s:=5) (by omega) (gf:=117) (lb:=#[.pointer (some ⟨Bx,0,none⟩)]) rfl (enters_of func117 (by kernel_rfl) rfl) (e1:=fun x:J6=>.string (bs x.name)) (e2:=fun x:J6=>x.row)
  (Ia:=Rq w w.heap.size Bx (.pointer (some ⟨p,0,none⟩)) 36 Ae A (JP Ae A w w.heap.size)) (Iy:=VU w w.heap.size Bx (.pointer (some ⟨p,0,none⟩)) 36 Ae A (JP Ae A w w.heap.size))
  (fun xs=>yj (abI _ _ _ _) DN.Ay.size xs) (fun xs x=>ym (abI _ _ _ _) DN.Ay.size xs x)
  (awd 2 (by omega) HM HF w.heap.size Bx (abI _ _ _ _) U) (.inl ⟨rfl,DN.Ay,Ac _,by have:=EZ.out;omega,Hu,w.heap.size+1,DN.size,.slice none 0 0,by rw[show Jh Ae A []=[] from rfl,PV];exact DN.out,fun _=>rfl⟩)
  ?assign ?body ?done
 case assign=>
  intro l x W K hK;simp only[np] at hK ⊢
  gi_wp2
  exact hK
 case body=>
  intro l2 pre x W hy;obtain⟨hS,hG,hT,⟨v,hO,-⟩,⟨q2,c2,Hm,hP,CV,-⟩⟩:=hy;have hlen:(Jh Ae A (pre.map (·.name))).length+((fileOf Ae A x.name).getD []).length≤1000000:=by
   obtain⟨ts,Km⟩:=hT;have h1:=amo (K:=Ae) (A:=A) (ks:=pre.map (·.name)++[x.name]) (ts:=ts);rw[Dp,List.singleton_append,Km,HE.out,kY,Au] at h1;have:=HL.out;omega
  obtain⟨v7,w7,U9,Oa,IK⟩:=axn (W:=W) hO.row hP CV (by omega) hO.size;obtain⟨qv,cv,rfl,-,-⟩:=Es hO.row;obtain⟨q7,c7,rfl⟩:=Bg Oa;have KI:=Af W.heap.size W;have uX:=Hi (hO.add KI IK Oa);have gu:=Hi (hO.keeps KI IK (.slice q7 ((Jh Ae A (pre.map (·.name))).length+((fileOf Ae A x.name).getD []).length) c7));have Yl:=Hi (hO.turned KI IK (.slice q7 ((Jh Ae A (pre.map (·.name))).length+((fileOf Ae A x.name).getD []).length) c7));have EL:=Hi (show Rq w w.heap.size Bx (.pointer (some ⟨p,0,none⟩)) 36 Ae A (JP Ae A w w.heap.size) (pre++[x]) (w7.setCell ⟨w.heap.size,0,none⟩ (.slice q7 ((Jh Ae A (pre.map (·.name))).length+((fileOf Ae A x.name).getD []).length) c7)) from yn hS hG hT Yl ⟨_,by rw[kY,Au];exact uX.out,fun e=>by simp at e⟩);have Q7:=(IK.block w.heap.size (Ai hO.box) (fun e=>(hO.ne e.symm).1 rfl)).trans hO.box;have bK:w7.cell? ⟨w.heap.size,0,none⟩=some (.slice qv (Jh Ae A (pre.map (·.name))).length cv):=cr Q7;have bN:=CJ w7 w.heap.size 0 _ _ Q7;have cb:W.cell? ⟨w.heap.size,0,none⟩=some (.slice qv (Jh Ae A (pre.map (·.name))).length cv):=cr hO.box;have ai4:=Ai hO.box;rw[←Hm] at U9;clear hS hG hT hO Hm hP CV hlen Oa IK KI Q7;simp only[np];generalize x.row=xr at*;generalize (Jh Ae A (pre.map (·.name))).length=rn at*;generalize ((fileOf Ae A x.name).getD []).length=fn at*;generalize (Value.string (bs x.name))=xnm at*
  gi_wp2
  exact⟨gu,EL⟩
 case done=>
  intro D xs W hD hS hI FM;obtain⟨B,v,hO,-⟩:=yl hI;rw[hS,HE.out] at hO;have Ah:=hO.row;obtain⟨q,c,rfl,Gz,BH⟩:=Es Ah;have HO:=Hi hO;have UB:=Hi FM;have HD:=Hi (show w.heap.size≤D from Ap (Ap (Nat.le_succ _) DN.size) hD);have cb:W.cell? ⟨w.heap.size,0,none⟩=some (.slice q (Ed Ae A).length c):=cr hO.box;have Jm:=Hi (dL (w:=W) (AO.CG Ah) Gz HL);clear hS hI FM hD hO Ah
  gi_wp2
  refine⟨trivial,(Di.2 Jm).mono ?_⟩;rintro e w5⟨kv,rfl,Ch,Bf⟩;have ae8:=Hi ((Bf.block D (CR.1 UB).1).trans UB);have Ck:=Hi (HO.Ay.trans (Bf.mono HO.Ay.size));have PH:=Hi (E9 Ch HO.Ay.size);clear Bf Ch
  gi_wp2
  refine⟨by simp,.inl ⟨_,_,rfl,run_takeDeferred ae8,?_⟩⟩;have hu:A7 (fun i=>i=D) w5 (w5.putObj D (.deferred none)):=A7.of_grownBy (F:=fun i=>i=D) (grownBy_putObj' w5 D (.deferred none)) (fun i e=>by cases e;rfl)
  exact⟨_,(by simp[results,results25,go_sem]),_,rfl,Bh PH hu (fun k hk e=>by
   obtain⟨cs,fz,h2⟩:=BQ PH hk;rw[e,ae8.out] at h2;cases h2),Ca Ck hu (fun i e=>by rw[e];exact HD.out) Ck.size⟩
end Mem
namespace Mem
open Go.RowKit Go.Maps
open Wal Fil Man Prs Kp Cm Hex Sha Al
attribute [local go_sem] Om
end Mem
section
open Go.RowKit Go.Maps Go.Sort Go.Shelf
open Fil Man
def al0:Go.Shelf.Ren:=⟨fun|7=>149|10=>196|n=>n,fun|23=>145|26=>9|3=>147|28=>228|0=>0|27=>227|33=>107|4=>4|n=>n,fun|n=>n⟩
theorem akZ:Go.Proofs.SlLaysZ.n7 prog al0:={
 mixed:=by kernel_rfl
 f7:=⟨Tryz.f149.name,by decide,func149.trans (congrArg some (by kernel_rfl))⟩
 f10:=⟨Tryz.f196.name,by decide,func196.trans (congrArg some (by kernel_rfl))⟩
 t0:=underlying0
 a0:=Tryz.isAgg0
 z0:=Tryz.sizeOf0
 v0:=Tryz.zeroValue0
 t4:=underlying4
 a4:=Tryz.isAgg4
 z4:=Tryz.sizeOf4
 v4:=Tryz.zeroValue4
 t23:=underlying145
 a23:=Tryz.isAgg145
 z23:=Tryz.sizeOf145
 v23:=Tryz.zeroValue145
 t26:=underlying9
 a26:=Tryz.isAgg9
 z26:=Tryz.sizeOf9
 v26:=Tryz.zeroValue9
 t27:=underlying227
 a27:=Tryz.isAgg227
 z27:=Tryz.sizeOf227
 v27:=Tryz.zeroValue227
 t28:=underlying228
 a28:=Tryz.isAgg228
 z28:=Tryz.sizeOf228
 v28:=Tryz.zeroValue228
 t33:=underlying107
 a33:=Tryz.isAgg107
 z33:=Tryz.sizeOf107
 v33:=Tryz.zeroValue107 }
def afP:Go.Shelf.Ren:=⟨fun|7=>164|10=>209|n=>n,fun|23=>164|26=>9|3=>167|28=>228|0=>0|27=>227|33=>107|4=>4|n=>n,fun|n=>n⟩
theorem afO:Go.Proofs.SlLaysZ.n7 prog afP:={
 mixed:=by kernel_rfl
 f7:=⟨Tryz.f164.name,by decide,func164.trans (congrArg some (by kernel_rfl))⟩
 f10:=⟨Tryz.f209.name,by decide,func209.trans (congrArg some (by kernel_rfl))⟩
 t0:=underlying0
 a0:=Tryz.isAgg0
 z0:=Tryz.sizeOf0
 v0:=Tryz.zeroValue0
 t4:=underlying4
 a4:=Tryz.isAgg4
 z4:=Tryz.sizeOf4
 v4:=Tryz.zeroValue4
 t23:=underlying164
 a23:=Tryz.isAgg164
 z23:=Tryz.sizeOf164
 v23:=Tryz.zeroValue164
 t26:=underlying9
 a26:=Tryz.isAgg9
 z26:=Tryz.sizeOf9
 v26:=Tryz.zeroValue9
 t27:=underlying227
 a27:=Tryz.isAgg227
 z27:=Tryz.sizeOf227
 v27:=Tryz.zeroValue227
 t28:=underlying228
 a28:=Tryz.isAgg228
 z28:=Tryz.sizeOf228
 v28:=Tryz.zeroValue228
 t33:=underlying107
 a33:=Tryz.isAgg107
 z33:=Tryz.sizeOf107
 v33:=Tryz.zeroValue107 }
theorem awm(mb:Option Nat)(W:World):Calls prog 149 #[.map mb] W fun e w'=>e=.returned (.func (.func 196) #[] #[.pointer (some ⟨W.heap.size,0,none⟩)])∧w'=W.alloc (.cells #[.map mb] 145):=
 Di.1 (AnyZ.keys_in akZ Fence.wide 5 trivial rfl mb W)
theorem awo{w:World}{m:Nat}{kv:List (T×Value)}(U8:StrMap prog 9 w m kv)(hlen:kv.length≤1000000):
  Calls prog 148 #[.func (.func 196) #[] #[.pointer (some ⟨w.heap.size,0,none⟩)]] (w.alloc (.cells #[.map (some m)] 145)) fun e w'=>
   ∃ v,e=.returned v∧w'.ownsRow (w.heap.size+1) 9 1 v kv.length (((kv.map (·.1)).mergeSort (fun x y=>decide (x≤y))).map encStr)∧Bw w w':=by
 obtain⟨D,hown,hsz,bV⟩:=U8.keyed;have De:=hown.lt;have MC:SeqGives Fence.wide 2 prog 196 #[.pointer (some ⟨w.heap.size,0,none⟩)] encStr (fun ss=>ss.Perm (strKeys D)) (Maps.size D) (w.alloc (.cells #[.map (some m)] 145)):=
  AnyZ.keys_gives (ρ:=al0) { akZ with } Fence.wide _ trivial rfl (by omega) w.heap.size m kv.length D _ (by simp) (by simp) (by
   obtain⟨es,clock,hb,Ft,hs,hD⟩:=hown;exact⟨es,clock,(Below.heap_alloc _ _ m De).trans hb,Ft,hs,hD⟩)
 have cS:=AnyZ.sorted_in zy Fence.wide 5 trivial trivial trivial trivial rfl (by omega) (zz _) (enters_of func115 (by kernel_rfl) rfl) 196 #[.pointer (some ⟨w.heap.size,0,none⟩)] trivial (enters_of func196 (by kernel_rfl) rfl) _ _ (by unfold maxLen;omega) (by omega) _ MC;refine(Di.1 cS).mono ?_;rintro e w'⟨v,ss,rfl,hS,Ah,_,hb⟩;have LH:ss.Perm (kv.map (·.1)):=hS.trans bV.symm;have e1:ss.length=kv.length:=by have:=LH.length_eq;simpa using this
 have e2:ss.mergeSort leB=(kv.map (·.1)).mergeSort leB:=mergeSort_of_perm LH;have e3:ss.mergeSort (fun x y=>decide (x≤y))=(kv.map (·.1)).mergeSort (fun x y=>decide (x≤y)):=e2;rw[e1,e3] at Ah;exact⟨v,rfl,by rw[Aq] at Ah;exact Ah,((Af _ w).alloc (Ac _) _).trans (hb.mono (by rw[Aq];omega))⟩
theorem ar0(mb:Option Nat)(W:World):Calls prog 164 #[.map mb] W fun e w'=>e=.returned (.func (.func 209) #[] #[.pointer (some ⟨W.heap.size,0,none⟩)])∧w'=W.alloc (.cells #[.map mb] 164):=
 Di.1 (AnyZ.keys_in afO Fence.wide 5 trivial rfl mb W)
theorem ar2{w:World}{m:Nat}{kv:List (T×Value)}(U8:StrMap prog 9 w m kv)(hlen:kv.length≤1000000):
  Calls prog 148 #[.func (.func 209) #[] #[.pointer (some ⟨w.heap.size,0,none⟩)]] (w.alloc (.cells #[.map (some m)] 164)) fun e w'=>
   ∃ v,e=.returned v∧w'.ownsRow (w.heap.size+1) 9 1 v kv.length (((kv.map (·.1)).mergeSort (fun x y=>decide (x≤y))).map encStr)∧Bw w w':=by
 obtain⟨D,hown,hsz,bV⟩:=U8.keyed;have De:=hown.lt;have MC:SeqGives Fence.wide 2 prog 209 #[.pointer (some ⟨w.heap.size,0,none⟩)] encStr (fun ss=>ss.Perm (strKeys D)) (Maps.size D) (w.alloc (.cells #[.map (some m)] 164)):=
  AnyZ.keys_gives (ρ:=afP) { afO with } Fence.wide _ trivial rfl (by omega) w.heap.size m kv.length D _ (by simp) (by simp) (by
   obtain⟨es,clock,hb,Ft,hs,hD⟩:=hown;exact⟨es,clock,(Below.heap_alloc _ _ m De).trans hb,Ft,hs,hD⟩)
 have cS:=AnyZ.sorted_in zy Fence.wide 5 trivial trivial trivial trivial rfl (by omega) (zz _) (enters_of func115 (by kernel_rfl) rfl) 209 #[.pointer (some ⟨w.heap.size,0,none⟩)] trivial (enters_of func209 (by kernel_rfl) rfl) _ _ (by unfold maxLen;omega) (by omega) _ MC;refine(Di.1 cS).mono ?_;rintro e w'⟨v,ss,rfl,hS,Ah,_,hb⟩;have LH:ss.Perm (kv.map (·.1)):=hS.trans bV.symm;have e1:ss.length=kv.length:=by have:=LH.length_eq;simpa using this
 have e2:ss.mergeSort leB=(kv.map (·.1)).mergeSort leB:=mergeSort_of_perm LH;have e3:ss.mergeSort (fun x y=>decide (x≤y))=(kv.map (·.1)).mergeSort (fun x y=>decide (x≤y)):=e2;rw[e1,e3] at Ah;exact⟨v,rfl,by rw[Aq] at Ah;exact Ah,((Af _ w).alloc (Ac _) _).trans (hb.mono (by rw[Aq];omega))⟩
end
namespace Kp
open Go.Lib Go.RowKit Fil Man Wal Prs
def rowOf(L:List (T×M))(name:T):M:=((L.find? fun x=>x.1 == name).map (·.2)).getD []
theorem kW{L:List (T×M)}(hn:(L.map (·.1)).Nodup){x:T×M}(hx:x∈L):rowOf L x.1=x.2:=by
 unfold rowOf
 induction L with
 |nil=>simp at hx
 |cons y L ih=>
  obtain⟨n1,n2⟩:=JF.1 hn;rcases Bt.1 hx with rfl|hx
  ·simp
  ·have:y.1≠x.1:=fun e=>n1 (show y.1∈L.map (·.1) from by rw[e];exact Gm hx)
   rw[List.find?_cons_of_neg (by simpa using this)];exact ih n2 hx
def Lu(name:T)(l:M):Aj:=if l=[] then⟨name,[],true⟩ else⟨name,(BG l).getD [],false⟩
def Mh(l:M):Bool:=decide (l=[]) || (BG l).isSome
def CQ(L:List (T×M)):List T:=(L.map (·.1)).mergeSort fun x y=>decide (x≤y)
def K7(L:List (T×M)):List Aj:=(CQ L).map fun t=>Lu t (rowOf L t)
def OH(L:List (T×M)):Bool:=(CQ L).all fun t=>Mh (rowOf L t)
theorem kL{L:List (T×M)}{t:T}:t∈CQ L↔t∈L.map (·.1):=by
 unfold CQ;exact(List.mergeSort_perm _ _).mem_iff
theorem sJ(L:List (T×M)):(CQ L).length=L.length:=by
 unfold CQ;rw[(List.mergeSort_perm _ _).length_eq,Cf]
theorem sK{L:List (T×M)}(hn:(L.map (·.1)).Nodup):CQ L=AX (L.map (·.1)):=by
 have hp:(CQ L).Perm (L.map (·.1)):=List.mergeSort_perm _ _;have hs:Cr ((CQ L).map fun t=>(t,[])):=by
  unfold Cr;rw[List.pairwise_map]
  have:=List.pairwise_mergeSort (le:=fun x y:T=>decide (x≤y)) (fun a b c h1 h2=>by
   have h1:a≤b:=QC h1;have h2:b≤c:=QC h2;exact Kr (List.le_trans h1 h2)) (fun a b=>by
   by_cases h:a≤b
   ·simp[h]
   ·have:b≤a:=(List.le_total a b).resolve_left h;simp[this]) (L.map (·.1))
  exact this.imp fun h=>QC h
 refine Qw ?_ (Iq _) fun t=>by rw[hp.mem_iff,Eg]
 have hnd:(CQ L).Nodup:=hp.nodup_iff.2 hn;unfold Cr at hs;rw[List.pairwise_map] at hs;refine(hs.and (List.nodup_iff_pairwise_ne.1 hnd)).imp fun {a b} h=>?_
 rcases Zr h.1 with e|e
 ·exact e
 ·exact absurd e h.2
end Kp
namespace Man
open Go.RowKit Go.Maps Wal Fil
attribute [local go_sem] Om
def apU(ats:Array TypeId)(ty:TypeId)(args:Array Value):Sem Value:=Builtin.append_ ats ty args
theorem apY(ats:Array TypeId)(ty:TypeId)(args:Array Value):Builtin.append_ ats ty args=apU ats ty args:=rfl
attribute [local go_sem ↓] apY
def XD(Q:Exit→Act→World→Prop):Exit→Act→World→Prop
 | .panic _,_,_=>False
 |e,a,w=>Q e a w
theorem ZT{P:Program}{c:Code}{Q:Exit→Act→World→Prop}{a:Act}{w:World}(h:c.wp P (XD Q) a w):c.wp P Q a w:=
 Code.wp_mono (fun e a w h=>by cases e<;>first|exact h|exact h.elim) h
section
variable {w:World}{b y n N:Nat}{bl:Nat→Prop}{A:M}
end
end Man
namespace Man
open Wal Fil
end Man
namespace Man
open Wal Fil
end Man
namespace Man
open Wal Fil
end Man
namespace Man
open Wal Fil
end Man
end Go.Proofs.YtmbbhdebddbhoaaGreat
