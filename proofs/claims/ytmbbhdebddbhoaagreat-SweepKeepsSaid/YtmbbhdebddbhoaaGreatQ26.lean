/- AllS AllM MemK MemL -/
import Derived.Test.YtmbbhdebddbhoaaGreatQ25
set_option maxHeartbeats 4000000
set_option maxRecDepth 100000
set_option linter.all false
namespace Go.Proofs.YtmbbhdebddbhoaaGreat
open Tryz
namespace Al
open Go.RowKit Go.Maps
open Wal Fil Man Prs Kp BH Hex Sha
structure I8(w:World)(y:Nat)(A:M):Prop where
 gets:Man.JR w y A
 names:∀ W,Bw w W→Calls prog 112 #[.pointer (some ⟨y,0,none⟩)] W fun e w'=>∃ v,e=.returned v∧w'.ownsRow 0 9 1 v A.length (strCells (A.map (·.1)))∧Bw W w'∧∀ k,v.ownBlock=some k→W.heap.size≤k
 up:Fil.Up A
 good:Fil.Good A
 len:A.length≤1000000
theorem I8.below{w w':World}{y:Nat}{A:M}(h:I8 w y A)(hb:Bw w w'):I8 w' y A:=
 ⟨Mem.OJ h.gets hb,fun W hW=>h.names W (hb.trans (hW.mono hb.size)),h.up,h.good,h.len⟩
theorem I8.bB{w w':World}{y:Nat}{A:M}(h:I8 w y A)(hb:Bw w w'):Man.JR w' y A:=Mem.OJ h.gets hb
theorem I8.short{w:World}{y:Nat}{A:M}(h:I8 w y A)(t:T)(ht:t∈A.map (·.1)):t.length≤1000:=by
 obtain⟨x,hx,rfl⟩:=AV.1 ht;have:=h.good x hx;unfold E9 at this;have:=(Ld this).2.1;omega
theorem aaR{fz:Bool}{w:World}{b y n N:Nat}{bl:Nat→Prop}{A:M}(h:Eo fz w b y bl n N A):I8 w y A:=by
 have au4:=SC h.up.2.2.2.2;have EW:=Ml A;have hup:=h.up;refine⟨Man.Xh h,fun W hW=>(ajp (h.below hW)).mono ?_,hup.1,hup.2.1,by omega⟩;rintro e w'⟨v,rfl,p1,_,p2,p3⟩;exact⟨v,rfl,p1,p2,p3⟩
structure DZ(et ct:TypeId)(s:Nat)(w:World)(oc B:Nat)(W:World)(n:Nat)(cs:List Value)(v:Value):Prop where
 Ao:Bw w W
 low:w.heap.size≤oc
 lt:oc < B
 size:B≤W.heap.size
 box:W.heap[oc]?=some (.cells #[v] ct)
 row:W.ownsRow B et s v n cs
section
variable {et ct:TypeId}{s:Nat}{w:World}{oc B:Nat}{W W1 W2:World}{n:Nat}{cs:List Value}{v:Value}
theorem DZ.ne(h:DZ et ct s w oc B W n cs v){k:Nat}(hk:v.ownBlock=some k):k≠oc∧B≤k:=by
 have:=CJ h.row hk;have:=h.lt;omega
theorem DZ.upd{F:Nat→Prop}(h:DZ et ct s w oc B W n cs v)(hu:A7 F W W1)(hB:∀ k,F k→w.heap.size≤k)(h1:¬ F oc)(h2:∀ k,v.ownBlock=some k→¬ F k):DZ et ct s w oc B W1 n cs v:=by
 have h3:=h.low;have h4:=h.lt;have h5:=h.size;exact⟨Bu h.Ao hu hB (by omega),h3,h4,Ah h5 hu.size,(hu.block oc (Ae h.box) h1).trans h.box,AL h.row hu h2⟩
theorem DZ.below(h:DZ et ct s w oc B W n cs v)(hb:Bw W W1):DZ et ct s w oc B W1 n cs v:=h.upd (ub hb) (fun _ f=>f.elim) (fun f=>f) (fun _ _ f=>f)
theorem DZ.put(h:DZ et ct s w oc B W n cs v){k:Nat}{o o':Obj}(ho:W.heap[k]?=some o)(hc:o.isCells=false)(hk:w.heap.size≤k):DZ et ct s w oc B (W.putObj k o') n cs v:=by
 refine h.upd (F:=fun i=>i=k) (A7.of_grownBy (F:=fun i=>i=k) (grownBy_putObj' W k o') (fun i e=>by cases e;rfl)) (fun i e=>by rw[e];exact hk) (fun e=>?_) (fun i hi e=>?_)
 ·rw[←e,h.box] at ho;injection ho with ho
  subst ho;exact absurd hc (by simp[Obj.isCells])
 ·obtain⟨cs,fz,h2⟩:=Bi h.row hi;rw[e,ho] at h2;injection h2 with h2
  subst h2;exact absurd hc (by simp[Obj.isCells])
theorem DZ.raise{B':Nat}(h:DZ et ct s w oc B W 0 [] (.slice none 0 0))(h1:B≤B')(h2:B'≤W.heap.size):DZ et ct s w oc B' W 0 [] (.slice none 0 0):=
 ⟨h.Ao,h.low,Di h.lt h1,h2,h.box,DJ _ _ _ _⟩
theorem DZ.add(h:DZ et ct s w oc B W n cs v)(hb:Bw W W1)(hg:W1.grownBy W2 v.ownBlock){v':Value}{n':Nat}{cs':List Value}(ho:W2.ownsRow B et s v' n' cs'):
  DZ et ct s w oc B (W2.setCell ⟨oc,0,none⟩ v') n' cs' v':=by
 have h1:=h.below hb;have h3:=h.low;have h4:=h.lt;have h5:=h1.size;have bg:W2.heap[oc]?=some (.cells #[v] ct):=(hg.block oc (Ae h1.box) (fun e=>(h1.ne e.symm).1 rfl)).trans h1.box;have hu:=(A7.refl (fun k=>k=oc) W2).setCell (p:=⟨oc,0,none⟩) (.inl rfl) v';refine⟨(h1.Ao.grown hg (by omega) (fun k e=>by have:=(h1.ne e).2;omega)).setCell (p:=⟨oc,0,none⟩) h3 v',h3,h4,Ah (Ah h5 hg.size) hu.size,Bh W2 oc 0 _ _ v' bg,?_⟩;refine AL ho hu (fun g hg e=>?_);have:=CJ ho hg;omega
theorem DZ.keeps(h:DZ et ct s w oc B W n cs v)(hb:Bw W W1)(hg:W1.grownBy W2 v.ownBlock)(v':Value):KeepsOthers W (W2.setCell ⟨oc,0,none⟩ v'):=by
 have h1:=h.below hb;refine((OE (ub hb) (fun _ _ f=>f.elim)).trans (KeepsOthers.of_grownBy hg fun j o e ho=>?_)).trans (KeepsOthers.setCell _ _ _);obtain⟨cs,fz,h2⟩:=Bi h1.row e;rw[ho] at h2;injection h2 with h2
 subst h2;rfl
theorem DZ.turned(h:DZ et ct s w oc B W n cs v)(hb:Bw W W1)(hg:W1.grownBy W2 v.ownBlock)(v':Value):A7 (fun k=>k=oc∨B≤k) W (W2.setCell ⟨oc,0,none⟩ v'):=
 ((A7.of_below (F:=fun k=>k=oc∨B≤k) hb).trans (A7.of_grownBy (F:=fun k=>k=oc∨B≤k) hg (fun k e=>.inr ((h.below hb).ne e).2)) (fun _ f=>.inl f)).setCell (p:=⟨oc,0,none⟩) (.inl (.inl rfl)) v'
end
structure Jo(w:World)(oc Bx B:Nat)(pv:Value)(ty:TypeId)(q:Option Addr)(c:Nat)(L:List T)(W:World):Prop where
 Ao:Bw w W
 low:w.heap.size≤oc
 lt:oc < Bx
 lt2:Bx < B
 size:B≤W.heap.size
 box:W.heap[Bx]?=some (.cells #[pv] ty)
 row:W.ownsRow 0 9 1 (.slice q L.length c) L.length (strCells L)
 own:∀ k,(Value.slice q L.length c).ownBlock=some k→oc < k∧k < B
section
variable {w W W':World}{oc Bx B:Nat}{pv:Value}{ty:TypeId}{q:Option Addr}{c:Nat}{L:List T}
theorem Jo.upd{F:Nat→Prop}(h:Jo w oc Bx B pv ty q c L W)(hu:A7 F W W')(hF:∀ k,F k→k=oc∨B≤k):Jo w oc Bx B pv ty q c L W':=by
 have h1:=h.low;have h2:=h.lt;have h3:=h.lt2;have h4:=h.size;refine⟨Bu h.Ao hu (fun k f=>by have:=hF k f;omega) (by omega),h1,h2,h3,Ah h4 hu.size,(hu.block Bx (Ae h.box) (fun f=>by have:=hF _ f;omega)).trans h.box,AL h.row hu (fun k hk f=>?_),h.own⟩;have h5:=h.own k hk;have:=hF k f;omega
theorem Jo.below(h:Jo w oc Bx B pv ty q c L W)(hb:Bw W W'):Jo w oc Bx B pv ty q c L W':=h.upd (ub hb) (fun _ f=>f.elim)
theorem Jo.put(h:Jo w oc Bx B pv ty q c L W){k:Nat}{o o':Obj}(ho:W.heap[k]?=some o)(hc:o.isCells=false)(hk:w.heap.size≤k):Jo w oc Bx B pv ty q c L (W.putObj k o'):=by
 have h1:=h.low;have h2:=h.lt;have h3:=h.lt2;have h4:=h.size;have hu:A7 (fun i=>i=k) W (W.putObj k o'):=A7.of_grownBy (F:=fun i=>i=k) (grownBy_putObj' W k o') (fun i e=>by cases e;rfl);refine⟨Bu h.Ao hu (fun i e=>by rw[e];exact hk) (by omega),h1,h2,h3,Ah h4 hu.size,ME h.box ho hc,AL h.row hu (fun i hi e=>?_),h.own⟩;obtain⟨cs,fz,h5⟩:=Bi h.row hi;rw[e,ho] at h5;injection h5 with h5
 subst h5;exact absurd hc (by simp[Obj.isCells])
end
structure FU where
 name:T
 row:Value
 B:Nat
 q:Option Addr
 c:Nat
structure ali(K:Kind)(A:M)(x:FU)(W:World):Prop where
 row:∃ q c,x.row=.slice q ((fileOf K A x.name).getD []).length c∧Av W q ((fileOf K A x.name).getD [])∧(q=none→c=0)∧∀ p,q=some p→(fileOf K A x.name).getD []≠[]→Ap W p.block 75
theorem aaT{w:World}{base c:Nat}{q:Option Addr}{l:M}(h:AP w base (.slice q l.length c) l):∀ p,q=some p→l≠[]→Ap w p.block 75:=fun p e hne=>by
 subst e;rcases h.2 with⟨e1,e2⟩|⟨g,cap',cur,e1,_⟩
 ·exact absurd (IL.1 e2) hne
 ·have e2:p=⟨g,0,none⟩:=by injection e1 with e1;injection e1
  subst e2;exact Bi h (by rw[e1];rfl)
def GK(K:Kind)(A:M):List T:=(A.map (·.1)).filter K.ours
def bC(x:FU):Array Value:=#[.string (bs x.name),x.row]
structure Rj(w:World)(oc:Nat)(J:Nat→List T→World→Prop):Prop where
 below:∀ B ks W W',J B ks W→Bw W W'→J B ks W'
 raise:∀ B B' W,J B [] W→B≤B'→B'≤W.heap.size→J B' [] W
 put:∀ B ks W k o o',J B ks W→W.heap[k]?=some o→o.isCells=false→w.heap.size≤k→J B ks (W.putObj k o')
def LZ(w:World)(oc Bx:Nat)(pv:Value)(ty:TypeId)(K:Kind)(A:M)(J:Nat→List T→World→Prop)(xs:List FU)(W:World):Prop:=
 (xs=[]∧Bw w W∧w.heap.size≤oc∧oc < Bx∧W.heap[Bx]?=some (.cells #[pv] ty)∧∃ B,B≤W.heap.size∧J B [] W)∨
 ∃ B q c,Jo w oc Bx B pv ty q c (A.map (·.1)) W∧(∀ x∈xs,x.B=B∧x.q=q∧x.c=c)∧(∃ ts,xs.map (·.name)++ts=GK K A)∧J B (xs.map (·.name)) W
def PT(w:World)(oc Bx:Nat)(pv:Value)(ty:TypeId)(K:Kind)(A:M)(J:Nat→List T→World→Prop)(xs:List FU)(x:FU)(W:World):Prop:=
 Jo w oc Bx x.B pv ty x.q x.c (A.map (·.1)) W∧(∀ z∈xs,z.B=x.B∧z.q=x.q∧z.c=x.c)∧(∃ ts,xs.map (·.name)++x.name :: ts=GK K A)∧J x.B (xs.map (·.name)) W∧ali K A x W
theorem alj{W:World}{q:Option Addr}{l:M}(h:Av W q l){k:Nat}{o o':Obj}(ho:W.heap[k]?=some o)(hc:o.isCells=false):Av (W.putObj k o') q l:=fun i hi=>by
 obtain⟨p,e,hp⟩:=h i hi;exact⟨p,e,lY hp.key ho hc,lY hp.val ho hc⟩
section
variable {w:World}{oc Bx:Nat}{pv:Value}{ty:TypeId}{K:Kind}{A:M}{J:Nat→List T→World→Prop}
theorem bD(hJ:Rj w oc J){B0:Nat}(hB:w.heap.size≤B0)(xs:List FU):JS B0 (LZ w oc Bx pv ty K A J xs):=by
 constructor
 ·intro V k o o' hk h ho hc;rcases h with⟨h1,h2,h3,h4,h5,B,h6,h7⟩|⟨B,q,c,h1,hg,h2,h3⟩
  ·have hu:A7 (fun i=>i=k) V (V.putObj k o'):=A7.of_grownBy (F:=fun i=>i=k) (grownBy_putObj' V k o') (fun i e=>by cases e;rfl);refine .inl ⟨h1,Bu h2 hu (fun i e=>by rw[e];omega) h2.size,h3,h4,ME h5 ho hc,B,Ah h6 hu.size,hJ.put _ _ _ _ _ _ h7 ho hc (by omega)⟩
  ·exact .inr ⟨B,q,c,h1.put ho hc (by omega),hg,h2,hJ.put _ _ _ _ _ _ h3 ho hc (by omega)⟩
 ·intro V o h;have hb:=Am V o;rcases h with⟨h1,h2,h3,h4,h5,B,h6,h7⟩|⟨B,q,c,h1,hg,h2,h3⟩
  ·exact .inl ⟨h1,h2.trans (hb.mono h2.size),h3,h4,(hb.block _ (Ae h5)).trans h5,B,Ah h6 hb.size,hJ.below _ _ _ _ h7 hb⟩
  ·exact .inr ⟨B,q,c,h1.below hb,hg,h2,hJ.below _ _ _ _ h3 hb⟩
theorem bE(hJ:Rj w oc J){B0:Nat}(hB:w.heap.size≤B0)(xs:List FU)(x:FU):JS B0 (PT w oc Bx pv ty K A J xs x):=by
 constructor
 ·rintro V k o o' hk ⟨h1,hg,h2,h3,⟨q2,c2,e,hp,hq,hpb⟩⟩ ho hc
  exact⟨h1.put ho hc (by omega),hg,h2,hJ.put _ _ _ _ _ _ h3 ho hc (by omega),⟨q2,c2,e,alj hp ho hc,hq,fun p e1 e2=>by
   obtain⟨cs,fr,hb⟩:=hpb p e1 e2
   exact⟨cs,fr,by
    rw[World.putObj_heap_other (fun e=>?_)]
    ·exact hb
    ·subst e;rw[hb] at ho;injection ho with ho
     subst ho;cases hc⟩⟩⟩
 ·rintro V o ⟨h1,hg,h2,h3,⟨q2,c2,e,hp,hq,hpb⟩⟩;have hb:=Am V o
  exact⟨h1.below hb,hg,h2,hJ.below _ _ _ _ h3 hb,⟨q2,c2,e,hp.below hb,hq,fun p e1 e2=>by
   obtain⟨cs,fr,hb2⟩:=hpb p e1 e2;exact⟨cs,fr,(hb.block _ (Ae hb2)).trans hb2⟩⟩⟩
theorem bF{xs:List FU}{x:FU}{W W':World}(h:Jo w oc Bx x.B pv ty x.q x.c (A.map (·.1)) W)(hg:∀ z∈xs,z.B=x.B∧z.q=x.q∧z.c=x.c)(hs:∃ ts,xs.map (·.name)++x.name :: ts=GK K A)(hu:A7 (fun k=>k=oc∨x.B≤k) W W')(hj:J x.B (xs.map (·.name)++[x.name]) W'):LZ w oc Bx pv ty K A J (xs++[x]) W':=by
 obtain⟨ts,hs⟩:=hs;refine .inr ⟨x.B,x.q,x.c,h.upd hu (fun _ f=>f),fun z hz=>?_,⟨ts,?_⟩,?_⟩
 ·rcases Ee.1 hz with e|e
  ·exact hg z e
  ·rw[DT.1 e];exact⟨rfl,rfl,rfl⟩
 ·rw[C8,Cw,←hs];rfl
 ·rw[C8];exact hj
end
end Al
namespace Mem
open Go.RowKit Go.Maps
open Wal Fil Man Prs Kp BH Hex Sha Al
theorem mh{L:List T}{f:T→Bool}{k:Nat}(hk:k < L.length):(L.take (k+1)).filter f=(L.take k).filter f++(if f L[k]=true then[L[k]] else[]):=by
 rw[BS hk,O1]
 congr 1
 by_cases h:f L[k]=true<;>simp[h]
theorem aaU{L:List T}{f:T→Bool}{k:Nat}(hk:k < L.length)(h:f L[k]=true):(L.take k).filter f++L[k] :: (L.drop (k+1)).filter f=L.filter f:=by
 conv=>rhs;rw[←Ja (k+1) L,O1,mh hk,Ac h]
 simp
def bG(w:World)(oc Bx B:Nat)(pv:Value)(ty:TypeId)(q:Option Addr)(c:Nat)(K:Kind)(A:M)(J:Nat→List T→World→Prop)(Bk:World→Prop)(i:Value)(wr:World):Prop:=
 ∃ (k:Nat) (xs:List FU),k≤A.length∧i=.int .i64 k∧Jo w oc Bx B pv ty q c (A.map (·.1)) wr∧(∀ z∈xs,z.B=B∧z.q=q∧z.c=c)∧xs.map (·.name)=((A.map (·.1)).take k).filter K.ours∧J B (xs.map (·.name)) wr∧Bk wr
theorem aaV(n:Nat)(hn:1≤n){w:World}{p y:Nat}{A:M}(hm:DR w p y)(hf:I8 w y A)(oc Bx:Nat){J:Nat→List T→World→Prop}(hJ:Rj w oc J)(w1:World):
  SH n prog 117 #[.pointer (some ⟨Bx,0,none⟩)] bC (LZ w oc Bx (.pointer (some ⟨p,0,none⟩)) 36 A9 A J) (PT w oc Bx (.pointer (some ⟨p,0,none⟩)) 36 A9 A J) (fun xs=>xs.map (·.name)=GK A9 A) w1:=by
 intro l Bk W OC hY hW h0 hk0;have h00:Bw w W∧w.heap.size≤oc∧oc < Bx∧W.heap[Bx]?=some (.cells #[.pointer (some ⟨p,0,none⟩)] 36)∧∃ B,B≤W.heap.size∧J B [] W:=by
  rcases h0 with⟨-,h⟩|⟨B0,q0,c0,g1,-,g2,g3⟩
  ·exact h
  ·exact⟨g1.Ao,g1.low,g1.lt,g1.box,B0,g1.size,g3⟩
 obtain⟨g1,g2,g3,g4,B0,g5,g6⟩:=h00;clear h0;have hbx:W.cell? ⟨Bx,0,none⟩=some (.pointer (some ⟨p,0,none⟩)):=cr g4;have hmc:=(hm.below g1).cell;have Gb:=Hi (hf.names W g1);have G1:=Hi g1;have G2:=Hi g2;have G3:=Hi g3;have G4:=Hi g4;have G5:=Hi g5;have G6:=Hi g6;have GJ:=Hi hk0;have MJ:=Hi OC;have HJ:=Hi hJ;have HM:=Hi hm;have HF:=Hi hf;have hlen:=hf.len;clear g1 g2 g3 g4 g5 g6 hk0 OC hJ hm hf;refine callsIn_of_wp func117 rfl trivial ?_ rfl;simp only[ntmps117,Ih,AX,FN,Nat.reduceAdd,Nat.reduceSub,JB,JA,Jz,JC,DI,FL]
 gi_wp2
 refine⟨trivial,(Cu.2 Gb).mono ?_⟩;rintro e w2⟨v,rfl,ast,hb2,hown⟩;have HB2:=Hi (G1.trans (hb2.mono G1.size));have ayo:Bk w2:=MJ _ _ GJ (OE (ub hb2) (fun _ _ f=>f.elim));have hj2:J w2.heap.size [] w2:=HJ.raise _ _ _ (HJ.below _ _ _ _ G6 hb2) (Ah G5 hb2.size) (Ab _);obtain⟨q,c,rfl⟩:∃ q c,v=.slice q (A.map (·.1)).length c:=by
  rw[BQ];exact AA ast
 have hal:Jo w oc Bx w2.heap.size (.pointer (some ⟨p,0,none⟩)) 36 q c (A.map (·.1)) w2:=⟨HB2,G2,G3,Di (Ae G4) hb2.size,Ab _,(hb2.block _ (Ae G4)).trans G4,by rw[BQ] at ast ⊢;exact ast,fun k hk=>⟨Di (Nat.lt_trans G3 (Ae G4)) (hown k hk),by
  obtain⟨cs,fz,h⟩:=Bi ast hk;exact Ae h⟩⟩
 have NK:=Hi hal;have HJ2:=Hi hj2;have XD:=Hi ayo;generalize w2.heap.size=B at*;clear hal hj2 ayo ast hb2 hown Gb G1 G2 G3 G4 G5 G6 GJ;have Sm:=Hi (show ∀ t∈A.map (·.1),t.length≤1000 from fun t ht=>HF.short t ht);have hll:((A.map (·.1)).length:Int)=(A.length:Int):=by rw[BQ]
 gi_wp2
 gi_loopw [16] (fun i wr=>bG w oc Bx B (.pointer (some ⟨p,0,none⟩)) 36 q c A9 A J Bk i wr) (fun i _=>A.length -(intOf i).toNat)
 case atStart=>exact⟨0,[],Ar _,rfl,NK,fun z hz=>by simp at hz,rfl,HJ2,XD⟩
 case round=>
  obtain⟨k,xs,hk,rfl,h1,hgh,h2,h3,h4⟩:=hrel;have Tx:=Hi hgh;have H1:=Hi h1;have H2:=Hi h2;have H3:=Hi h3;have H4:=Hi h4;clear h2 h3 h4 hgh NK HJ2 XD;by_cases hlt:k < A.length
  ·have NL:k < (A.map (·.1)).length:=(by rw[BQ];exact hlt);obtain⟨a,hix,c0⟩:=(CP (c:=c) h1.row).index c k NL;simp only[BQ] at hix;have hnm:∀ t∈A.map (·.1),t.length≤1000:=Sm.out;have hnk:=hnm _ (BF NL);have Bo:=Hi (mh (f:=A9.ours) NL);have Ty:=Hi (aaU (f:=A9.ours) NL);generalize (A.map (·.1))[k]=name at*;have HO:=Hi (alc name wr (by omega));clear hnm;have Tz:wr.cell? ⟨Bx,0,none⟩=some (.pointer (some ⟨p,0,none⟩)):=cr h1.box;have hB0:=h1.Ao;have HB0:=Hi hB0;clear h1 hB0
   gi_wp2
   refine⟨trivial,(Cu.2 HO).mono ?_⟩;rintro e w3⟨rfl,hb3⟩;have mo:w3.cell? ⟨Bx,0,none⟩=some (.pointer (some ⟨p,0,none⟩)):=(hb3.cell (Bz Tz)).trans Tz;have Fz:=Hi (H1.below hb3);have XE:=Hi (HJ.below _ _ _ _ H3 hb3);have F3:=Hi (MJ _ _ H4 (OE (ub hb3) (fun _ _ f=>f.elim)));clear hb3 hix c0 HO Tz;cases hou:A9.ours name with
   |false=>
    have HX:=Hi (show xs.map (·.name)=((A.map (·.1)).take (k+1)).filter A9.ours from by rw[Bo.out,hou,H2.out];simp);clear Bo Ty hou
    gi_wp2
    go_roundw
    case rel=>exact⟨k+1,xs,by omega,by go_num,Fz,Tx,HX,XE,F3⟩
    case measure=>
     show A.length -((k:Int)+1).toNat < A.length -((k:Int)).toNat
     omega
   |true=>
    have HX:=Hi (show xs.map (·.name)++[name]=((A.map (·.1)).take (k+1)).filter A9.ours from by rw[Bo.out,hou,H2.out];simp);have mq:=Hi (show xs.map (·.name)++name :: ((A.map (·.1)).drop (k+1)).filter A9.ours=GK A9 A from by rw[H2.out];exact Ty hou);have EO:=Hi (bz (HM.below (Fz.Ao)) (HF.bB Fz.Ao) name hnk);clear Bo Ty hou
    gi_wp2
    refine⟨trivial,(Cu.2 EO).mono ?_⟩;rintro e w4⟨q2,c2,rfl,ast,hqc,hb4⟩;have Mx:=Hi (Fz.below hb4);have mr:=Hi (HJ.below _ _ _ _ XE hb4);have KX:=Hi (MJ _ _ F3 (OE (ub hb4) (fun _ _ f=>f.elim)));obtain⟨x,El,ED,NM,PU,PV⟩:∃ x:FU,x.name=name∧x.row=.slice q2 ((fileOf A9 A name).getD []).length c2∧x.B=B∧x.q=q∧x.c=c:=⟨⟨name,_,B,q,c⟩,rfl,rfl,rfl,rfl,rfl⟩;have R8:PT w oc Bx (.pointer (some ⟨p,0,none⟩)) 36 A9 A J xs x w4:=⟨by rw[NM,PU,PV];exact Mx.out,by rw[NM,PU,PV];exact Tx.out,⟨_,by rw[El];exact mq.out⟩,by rw[NM];exact mr.out,⟨q2,c2,by rw[El];exact ED,by rw[El];exact Av.BU ast,hqc,by rw[El];exact aaT ast⟩⟩;obtain⟨fn,tmps,assign,body,hy,hR⟩:=hY xs _ w4 R8 KX.out;have HR:=Hi hR;unfold bC at hy;rw[El,ED] at hy;have mD:=Hi (show(xs++[x]).map (·.name)=((A.map (·.1)).take (k+1)).filter A9.ours from by rw[C8,List.map_singleton,El];exact HX.out);have mE:=Hi (show x.B=B∧x.q=q∧x.c=c from⟨NM,PU,PV⟩);have XF:=Hi (show x∈xs++[x] from by simp);generalize (xs++[x])=mF at*;clear El ED NM PU PV hR R8 ast hb4 mo;generalize ((fileOf A9 A name).getD []).length=ln at*
    gi_wp2
    refine HR.mono ?_;rintro e w5⟨rfl,h5,h6⟩
    have Ca:=Hi (show bG w oc Bx B (.pointer (some ⟨p,0,none⟩)) 36 q c A9 A J Bk (.int .i64 ((k:Int)+1)) w5 from by
     rcases h5 with⟨e,-⟩|⟨B',q',c',k1,k2,k3,k4⟩
     ·have:=XF.out;rw[e] at this;simp at this
     ·obtain⟨e1,e2,e3⟩:=k2 _ XF;obtain⟨f1,f2,f3⟩:=mE.out;obtain rfl:B'=B:=e1.symm.trans f1;obtain rfl:q'=q:=e2.symm.trans f2;obtain rfl:c'=c:=e3.symm.trans f3;exact⟨k+1,mF,by omega,by go_num,k1,k2,mD,k4,h6⟩)
    clear h5 h6 hy HR
    gi_wp2
    go_roundw
    case rel=>exact Ca.out
    case measure=>
     show A.length -((k:Int)+1).toNat < A.length -((k:Int)).toNat
     omega
  ·obtain rfl:k=A.length:=by omega
   have HE:=Hi (show xs.map (·.name)=GK A9 A from by
    rw[H2.out,ET (by rw[BQ];exact Ab _)];rfl)
   clear h1
   gi_wp2
   go_end0
   exact⟨⟨_,rfl⟩,xs,HE,.inr ⟨B,q,c,H1,Tx,⟨[],by rw[E8,HE.out]⟩,H3⟩,H4.out⟩
end Mem
namespace Mem
open Go.RowKit Go.Maps
open Wal Fil Man Prs Kp BH Hex Sha Al
attribute [local go_sem] Le
attribute [local go_sem ↓] bf
theorem bH{α:Type}{P:Program}{n:Nat}{g:Operand}{q1 q2 s:Nat}{assign body:Code}{Q:Exit→Act→World→Prop}{a:Act}{w:World}(h1:1≤n)
  {gf:Nat}{lb:Array Value}(hg:a.eval g=.func (.func gf) #[] lb)(eg:∀ args w,(callFunc gf args).run P w=.ok (.enter gf args) w){e1 e2:α→Value}
  {Ia:List α→World→Prop}{Iy:List α→α→World→Prop}{S:List α→Prop}(R7:∀ xs,JS w.heap.size (Ia xs))(Xd:∀ xs x,JS w.heap.size (Iy xs x))
  (auZ:SH (n -1) P gf lb (fun x=>#[e1 x,e2 x]) Ia Iy S w)(h0:Ia [] w)
  (ayn:∀ (l:Nat) (x:α) (W:World) (K:Act→World→Prop),K { tmps:=((a.tmps.setIfInBounds q1 (e1 x)).setIfInBounds q2 (e2 x)).setIfInBounds s (e2 x),defers:=[] } W→
   assign.wpIn (Fence.wide.inRound l) (n -1 -1) P (Exit.then K (fun _ _ _=>False)) { tmps:=(a.tmps.setIfInBounds q1 (e1 x)).setIfInBounds q2 (e2 x),defers:=[] } W)
  (ayq:∀ (l:Nat) (pre:List α) (x:α) (W:World),Iy pre x W→body.wpIn (Fence.wide.inRound l) (n -1 -1) P (kK Ia (pre++[x]) W) { tmps:=((a.tmps.setIfInBounds q1 (e1 x)).setIfInBounds q2 (e2 x)).setIfInBounds s (e2 x),defers:=[] } W)
  (awt:∀ (D:Nat) (xs:List α) (W:World),w.heap.size≤D→S xs→Ia xs W→W.heap[D]?=some (.deferred (some []))→Q .normal { a with defers:={ target:=.collected D,args:=#[] } :: a.defers } W):
  (Code.rangeFunc g #[q1,q2] assign body).wpIn Fence.wide n P Q a w:=
 kL h1 hg eg (fun _=>rfl) R7 Xd auZ h0 (fun x=>{ tmps:=((a.tmps.setIfInBounds q1 (e1 x)).setIfInBounds q2 (e2 x)).setIfInBounds s (e2 x),defers:=[] }) (fun l x W K hK=>by
  have hz:(#[q1,q2].zip #[e1 x,e2 x])=#[(q1,e1 x),(q2,e2 x)]:=by simp
  rw[hz];exact ayn l x W K hK) ayq awt
theorem alk{W:World}{B n:Nat}{v:Value}{l k:M}(h:W.ownsRow B 75 2 v n (Cj l)){q:Option Addr}{cap:Nat}(hk:Av W q k)(hq:q=none→cap=0)(hn:n+k.length≤1000000000)(hb:B≤W.heap.size):
  ∃ v' w2,(Tn #[22,22] 22 #[v,.slice q k.length cap]).run prog W=.ok v' w2∧w2.ownsRow B 75 2 v' (n+k.length) (Cj (l++k))∧W.grownBy w2 v.ownBlock:=by
 obtain⟨i0,hi0,hz0,hz1,hz2⟩:=Cz LU;cases q with
 |none=>
  obtain rfl:k=[]:=by
   cases k with
   |nil=>rfl
   |cons y k=>
    obtain⟨p,hp,_⟩:=hk 0 (by simp);cases hp
  rw[hq rfl];refine⟨v,W,run_append_owned_none (P:=prog) (w:=W) B 22 22 75 i0 2 underlying22 hi0 v n (Cj l) h,?_,World.grownBy.refl W _⟩;rw[E8];exact h
 |some ad=>
  obtain⟨v',w2,h1,h2,h3,_,_⟩:=run_append_own_at (P:=prog) W B 22 22 75 i0 _ 2 32 underlying22 hi0 hz0 hz1 hz2 rfl (by decide) v n (Cj l) h ad k.length cap (Cj k) (Ve k) hk.cells (aao k) (by unfold maxLen;omega) (by omega) hb;exact⟨v',w2,h1,by rw[aan];exact h2,h3⟩
def EE(K:Kind)(A:M)(ks:List T):M:=ks.flatMap fun t=>(fileOf K A t).getD []
theorem TA(K:Kind)(A:M)(ks:List T)(t:T):EE K A (ks++[t])=EE K A ks++(fileOf K A t).getD []:=by
 unfold EE;rw[Kk];simp
theorem XG{K:Kind}{A:M}(hu:Up A):EE K A (GK K A)=Cm K A:=by
 unfold EE GK Cm
 suffices ∀ L:M,(∀ p∈L,p∈A)→(((L.map (·.1)).filter K.ours).flatMap fun t=>(fileOf K A t).getD [])=L.flatMap fun p=>if K.ours p.1=true then(K.Cn p.1 p.2).getD [] else[] from this A fun p h=>h
 intro L
 induction L with
 |nil=>exact fun _=>rfl
 |cons p L ih=>
  intro h;have e:(fileOf K A p.1).getD []=(K.Cn p.1 p.2).getD []:=by
   unfold fileOf;rw[get_mem hu (show(p.1,p.2)∈A from h p (by simp))];rfl
  rw[Bg,List.filter_cons,List.flatMap_cons,←ih fun x hx=>h x (Dh _ hx)];by_cases ho:K.ours p.1=true
  ·rw[Ac ho,Ac ho,List.flatMap_cons,e]
  ·rw[Aa ho,Aa ho,DI]
theorem mG{K:Kind}{A:M}{ks ts:List T}:(EE K A ks).length≤(EE K A (ks++ts)).length:=by
 unfold EE;rw[Kk,Aj];omega
theorem bI{w:World}{oc Bx:Nat}{pv:Value}{ty:TypeId}{K:Kind}{A:M}{J:Nat→List T→World→Prop}{xs:List FU}{W:World}(h:LZ w oc Bx pv ty K A J xs W):∃ B,J B (xs.map (·.name)) W:=by
 rcases h with⟨rfl,-,-,-,-,B,-,h⟩|⟨B,q,c,-,-,-,h⟩
 ·exact⟨B,h⟩
 ·exact⟨B,h⟩
def JP(K:Kind)(A:M)(w:World)(oc B:Nat)(ks:List T)(W:World):Prop:=
 ∃ v,DZ 75 22 2 w oc B W (EE K A ks).length (Cj (EE K A ks)) v∧(ks=[]→v=.slice none 0 0)
theorem mH(K:Kind)(A:M)(w:World)(oc:Nat):Rj w oc (JP K A w oc) where
 below:=fun B ks W W' ⟨v,h1,h2⟩ hb=>⟨v,h1.below hb,h2⟩
 raise:=fun B B' W ⟨v,h1,h2⟩ hb hs=>by
  have e:=h2 rfl;subst e;have e2:EE K A []=[]:=rfl;rw[e2,LQ] at h1;exact⟨_,by rw[e2,LQ];exact DZ.raise h1 hb hs,fun _=>rfl⟩
 put:=fun B ks W k o o' ⟨v,h1,h2⟩ ho hc hk=>⟨v,h1.put ho hc hk,h2⟩
theorem aaW(p:Nat)(w:World):
  Calls prog 48 #[.pointer (some ⟨p,0,none⟩)] w fun e w'=>e=.returned (.func (.func 117) #[] #[.pointer (some ⟨w.heap.size,0,none⟩)])∧w'=w.alloc (.cells #[.pointer (some ⟨p,0,none⟩)] 36):=by
 go_enter func48,ntmps48;go_wp2_with fail;go_ret;exact⟨rfl,rfl⟩
theorem bJ{w:World}{p y:Nat}{A:M}(hm:DR w p y)(hf:I8 w y A)(hl:(Cm A9 A).length≤1000000):
  Calls prog 25 #[.pointer (some ⟨p,0,none⟩)] w fun e w'=>∃ v,e=.returned v∧Man.AQ w' w.heap.size v (Au A9 A)∧Bw w w':=by
 refine(Cu (n:=3)).1 ?_;have Mh:prog.follows .mixedOrders=true:=by kernel_rfl
 have HM:=Hi hm;have HF:=Hi hf;have HE:=Hi (XG (K:=A9) hf.up);have HL:=Hi hl;clear hm hf hl;refine callsIn_of_wp_marks func25 rfl trivial ?_ rfl;simp only[ntmps25,Ih,AX,FN,Nat.reduceAdd,Nat.reduceSub,JB,JA,Jz,JC,DI,FL]
 gi_wp2
 have hb0:=Am w (.cells #[.slice none 0 0] 22);have ho0:DZ 75 22 2 w w.heap.size (w.heap.size+1) (w.alloc (.cells #[.slice none 0 0] 22)) 0 [] (.slice none 0 0):=⟨hb0,Ab _,Nat.lt_succ_self _,by rw[Ai];exact Ab _,Aq w _,DJ _ _ _ _⟩;have NN:=Hi ho0;refine⟨trivial,(Cu.2 (aaW p _)).mono ?_⟩;rintro e w2⟨rfl,hw2⟩;subst hw2
 gi_wp2
 have EC:=Hi (Aq (w.alloc (.cells #[.slice none 0 0] 22)) (.cells #[.pointer (some ⟨p,0,none⟩)] 36));have hb2:=Am (w.alloc (.cells #[.slice none 0 0] 22)) (.cells #[.pointer (some ⟨p,0,none⟩)] 36);have Cq:=Hi (NN.below hb2);have Db:=Hi (Ai w (.cells #[.slice none 0 0] 22));obtain⟨Bx,hBx⟩:=ex ((w.alloc (.cells #[.slice none 0 0] 22)).heap.size);rw[hBx] at EC Db;rw[show w.heap.size+1=Bx from Db.symm];obtain⟨U,hU⟩:=ex ((w.alloc (.cells #[.slice none 0 0] 22)).alloc (.cells #[.pointer (some ⟨p,0,none⟩)] 36));rw[hU] at EC Cq ⊢;clear hb0 hb2 ho0 NN hBx hU;refine bH (s:=5) (by omega) (gf:=117) (lb:=#[.pointer (some ⟨Bx,0,none⟩)]) rfl (enters_of func117 (by kernel_rfl) rfl) (e1:=fun x:FU=>.string (bs x.name)) (e2:=fun x:FU=>x.row)
  (Ia:=LZ w w.heap.size Bx (.pointer (some ⟨p,0,none⟩)) 36 A9 A (JP A9 A w w.heap.size)) (Iy:=PT w w.heap.size Bx (.pointer (some ⟨p,0,none⟩)) 36 A9 A (JP A9 A w w.heap.size))
  (fun xs=>bD (mH _ _ _ _) Cq.Ao.size xs) (fun xs x=>bE (mH _ _ _ _) Cq.Ao.size xs x)
  (aaV 2 (by omega) HM HF w.heap.size Bx (mH _ _ _ _) U) (.inl ⟨rfl,Cq.Ao,Ab _,by have:=Db.out;omega,EC,w.heap.size+1,Cq.size,.slice none 0 0,by rw[show EE A9 A []=[] from rfl,LQ];exact Cq.out,fun _=>rfl⟩)
  ?assign ?body ?done
 case assign=>
  intro l x W K hK;simp only[np] at hK ⊢
  gi_wp2
  exact hK
 case body=>
  intro l2 pre x W hy;obtain⟨hS,hG,hT,⟨v,hO,-⟩,⟨q2,c2,ED,hP,hq2,-⟩⟩:=hy;have hlen:(EE A9 A (pre.map (·.name))).length+((fileOf A9 A x.name).getD []).length≤1000000:=by
   obtain⟨ts,hts⟩:=hT;have h1:=mG (K:=A9) (A:=A) (ks:=pre.map (·.name)++[x.name]) (ts:=ts);rw[Cw,List.singleton_append,hts,HE.out,TA,Aj] at h1;have:=HL.out;omega
  obtain⟨v7,w7,LX,JZ,Ga⟩:=alk (W:=W) hO.row hP hq2 (by omega) hO.size;obtain⟨qv,cv,rfl,-,-⟩:=Dl hO.row;obtain⟨q7,c7,rfl⟩:=AA JZ;have hbW:=Ad W.heap.size W;have Xz:=Hi (hO.add hbW Ga JZ);have Tq:=Hi (hO.keeps hbW Ga (.slice q7 ((EE A9 A (pre.map (·.name))).length+((fileOf A9 A x.name).getD []).length) c7));have Tp:=Hi (hO.turned hbW Ga (.slice q7 ((EE A9 A (pre.map (·.name))).length+((fileOf A9 A x.name).getD []).length) c7));have Eg:=Hi (show LZ w w.heap.size Bx (.pointer (some ⟨p,0,none⟩)) 36 A9 A (JP A9 A w w.heap.size) (pre++[x]) (w7.setCell ⟨w.heap.size,0,none⟩ (.slice q7 ((EE A9 A (pre.map (·.name))).length+((fileOf A9 A x.name).getD []).length) c7)) from bF hS hG hT Tp ⟨_,by rw[TA,Aj];exact Xz.out,fun e=>by simp at e⟩);have LY:=(Ga.block w.heap.size (Ae hO.box) (fun e=>(hO.ne e.symm).1 rfl)).trans hO.box;have Vo:w7.cell? ⟨w.heap.size,0,none⟩=some (.slice qv (EE A9 A (pre.map (·.name))).length cv):=cr LY;have Vp:=Cb w7 w.heap.size 0 _ _ LY;have cb:W.cell? ⟨w.heap.size,0,none⟩=some (.slice qv (EE A9 A (pre.map (·.name))).length cv):=cr hO.box;have aaK:=Ae hO.box;rw[←ED] at LX;clear hS hG hT hO ED hP hq2 hlen JZ Ga hbW LY;simp only[np];generalize x.row=xr at*;generalize (EE A9 A (pre.map (·.name))).length=rn at*;generalize ((fileOf A9 A x.name).getD []).length=fn at*;generalize (Value.string (bs x.name))=xnm at*
  gi_wp2
  exact⟨Tq,Eg⟩
 case done=>
  intro D xs W hD hS hI hK2;obtain⟨B,v,hO,-⟩:=bI hI;rw[hS,HE.out] at hO;have ast:=hO.row;obtain⟨q,c,rfl,hqc,hcl⟩:=Dl ast;have HO:=Hi hO;have OI:=Hi hK2;have HD:=Hi (show w.heap.size≤D from Ah (Ah (Nat.le_succ _) Cq.size) hD);have cb:W.cell? ⟨w.heap.size,0,none⟩=some (.slice q (Cm A9 A).length c):=cr hO.box;have Gy:=Hi (Vn (w:=W) (Av.BU ast) hqc HL);clear hS hI hK2 hD hO ast
  gi_wp2
  refine⟨trivial,(Cu.2 Gy).mono ?_⟩;rintro e w5⟨kv,rfl,hkr,hb5⟩;have aaX:=Hi ((hb5.block D (BZ.1 OI).1).trans OI);have BG:=Hi (HO.Ao.trans (hb5.mono HO.Ao.size));have LB:=Hi (Da hkr HO.Ao.size);clear hb5 hkr
  gi_wp2
  refine⟨by simp,.inl ⟨_,_,rfl,run_takeDeferred aaX,?_⟩⟩;have hu:A7 (fun i=>i=D) w5 (w5.putObj D (.deferred none)):=A7.of_grownBy (F:=fun i=>i=D) (grownBy_putObj' w5 D (.deferred none)) (fun i e=>by cases e;rfl)
  exact⟨_,(by simp[results,results25,go_sem]),_,rfl,AL LB hu (fun k hk e=>by
   obtain⟨cs,fz,h2⟩:=Bi LB hk;rw[e,aaX.out] at h2;cases h2),Bu BG hu (fun i e=>by rw[e];exact HD.out) BG.size⟩
end Mem
namespace Mem
open Go.RowKit Go.Maps
open Wal Fil Man Prs Kp BH Hex Sha Al
attribute [local go_sem] Le
structure ML(w:World)(oc:Nat)(W:World)(n:Nat):Prop where
 Ao:Bw w W
 low:w.heap.size≤oc
 box:W.heap[oc]?=some (.cells #[.int .i64 (n:Int)] 3)
theorem ML.below{w W W':World}{oc n:Nat}(h:ML w oc W n)(hb:Bw W W'):ML w oc W' n:=⟨h.Ao.trans (hb.mono h.Ao.size),h.low,(hb.block _ (Ae h.box)).trans h.box⟩
theorem ML.put{w W:World}{oc n:Nat}(h:ML w oc W n){k:Nat}{o o':Obj}(ho:W.heap[k]?=some o)(hc:o.isCells=false)(hk:w.heap.size≤k):ML w oc (W.putObj k o') n:=by
 have hu:A7 (fun i=>i=k) W (W.putObj k o'):=A7.of_grownBy (F:=fun i=>i=k) (grownBy_putObj' W k o') (fun i e=>by cases e;rfl);exact⟨Bu h.Ao hu (fun i e=>by rw[e];exact hk) h.Ao.size,h.low,ME h.box ho hc⟩
def JN(K:Kind)(A:M)(w:World)(oc:Nat)(_B:Nat)(ks:List T)(W:World):Prop:=ML w oc W (EE K A ks).length
theorem mI(K:Kind)(A:M)(w:World)(oc:Nat):Rj w oc (JN K A w oc) where
 below:=fun _ _ _ _ h hb=>ML.below h hb
 raise:=fun _ _ _ h _ _=>h
 put:=fun _ _ _ _ _ _ h ho hc hk=>ML.put h ho hc hk
theorem aln{w:World}{p y:Nat}{A:M}(hm:DR w p y)(hf:I8 w y A)(hl:(Cm A9 A).length≤1000000):
  Calls prog 13 #[.pointer (some ⟨p,0,none⟩)] w fun e w'=>e=.returned (.int .i64 ((Cm A9 A).length:Int))∧Bw w w':=by
 refine(Cu (n:=3)).1 ?_;have Mh:prog.follows .mixedOrders=true:=by kernel_rfl
 have HM:=Hi hm;have HF:=Hi hf;have HE:=Hi (XG (K:=A9) hf.up);have HL:=Hi hl;clear hm hf hl;refine callsIn_of_wp_marks func13 rfl trivial ?_ rfl;simp only[ntmps13,Ih,AX,FN,Nat.reduceAdd,Nat.reduceSub,JB,JA,Jz,JC,DI,FL]
 gi_wp2
 have hb0:=Am w (.cells #[.int .i64 0] 3);have NN:=Hi (show ML w w.heap.size (w.alloc (.cells #[.int .i64 0] 3)) 0 from⟨hb0,Ab _,Aq w _⟩);refine⟨trivial,(Cu.2 (aaW p _)).mono ?_⟩;rintro e w2⟨rfl,hw2⟩;subst hw2
 gi_wp2
 have EC:=Hi (Aq (w.alloc (.cells #[.int .i64 0] 3)) (.cells #[.pointer (some ⟨p,0,none⟩)] 36));have Cq:=Hi (NN.below (Am (w.alloc (.cells #[.int .i64 0] 3)) (.cells #[.pointer (some ⟨p,0,none⟩)] 36)));have Db:=Hi (Ai w (.cells #[.int .i64 0] 3));obtain⟨Bx,hBx⟩:=ex ((w.alloc (.cells #[.int .i64 0] 3)).heap.size);rw[hBx] at EC Db;rw[show w.heap.size+1=Bx from Db.symm];obtain⟨U,hU⟩:=ex ((w.alloc (.cells #[.int .i64 0] 3)).alloc (.cells #[.pointer (some ⟨p,0,none⟩)] 36));rw[hU] at EC Cq ⊢;clear hb0 NN hBx hU;refine bH (s:=4) (by omega) (gf:=117) (lb:=#[.pointer (some ⟨Bx,0,none⟩)]) rfl (enters_of func117 (by kernel_rfl) rfl) (e1:=fun x:FU=>.string (bs x.name)) (e2:=fun x:FU=>x.row)
  (Ia:=LZ w w.heap.size Bx (.pointer (some ⟨p,0,none⟩)) 36 A9 A (JN A9 A w w.heap.size)) (Iy:=PT w w.heap.size Bx (.pointer (some ⟨p,0,none⟩)) 36 A9 A (JN A9 A w w.heap.size))
  (fun xs=>bD (mI _ _ _ _) Cq.Ao.size xs) (fun xs x=>bE (mI _ _ _ _) Cq.Ao.size xs x)
  (aaV 2 (by omega) HM HF w.heap.size Bx (mI _ _ _ _) U) (.inl ⟨rfl,Cq.Ao,Ab _,by have:=Db.out;omega,EC,0,Ar _,Cq⟩)
  ?assign ?body ?done
 case assign=>
  intro l x W K hK;simp only[np] at hK ⊢
  gi_wp2
  exact hK
 case body=>
  intro l2 pre x W hy;obtain⟨hS,hG,hT,hO,⟨q2,c2,ED,hP,hq2,-⟩⟩:=hy;have hlen:(EE A9 A (pre.map (·.name))).length+((fileOf A9 A x.name).getD []).length≤1000000:=by
   obtain⟨ts,hts⟩:=hT;have h1:=mG (K:=A9) (A:=A) (ks:=pre.map (·.name)++[x.name]) (ts:=ts);rw[Cw,List.singleton_append,hts,HE.out,TA,Aj] at h1;have:=HL.out;omega
  have Xz:=Hi (show ∀ v:Value,v=.int .i64 (((EE A9 A (pre.map (·.name))).length:Int)+(((fileOf A9 A x.name).getD []).length:Int))→LZ w w.heap.size Bx (.pointer (some ⟨p,0,none⟩)) 36 A9 A (JN A9 A w w.heap.size) (pre++[x]) (W.setCell ⟨w.heap.size,0,none⟩ v) from fun v e=>by
   subst e;have hu:=(A7.refl (fun k=>k=w.heap.size∨x.B≤k) W).setCell (p:=⟨w.heap.size,0,none⟩) (.inl (.inl rfl)) (.int .i64 (((EE A9 A (pre.map (·.name))).length:Int)+(((fileOf A9 A x.name).getD []).length:Int)));refine bF hS hG hT hu ?_;refine⟨hO.Ao.setCell (p:=⟨w.heap.size,0,none⟩) (Ab _) _,Ab _,?_⟩;rw[Bh W w.heap.size 0 _ _ _ hO.box,TA,Aj];simp)
  have Tq:=Hi (show ∀ v,KeepsOthers W (W.setCell ⟨w.heap.size,0,none⟩ v) from fun v=>KeepsOthers.setCell _ _ _);have cb:W.cell? ⟨w.heap.size,0,none⟩=some (.int .i64 ((EE A9 A (pre.map (·.name))).length:Int)):=cr hO.box;have Jp:=Cb W w.heap.size 0 _ _ hO.box;simp only[np];rw[ED];clear hS hG hT hO ED hP hq2;generalize (Value.string (bs x.name))=xnm at*;generalize (EE A9 A (pre.map (·.name))).length=rn at*;generalize ((fileOf A9 A x.name).getD []).length=fn at*
  gi_wp2
  exact⟨Tq _,Xz _ (by go_num)⟩
 case done=>
  intro D xs W hD hS hI hK2;obtain⟨B,hO⟩:=bI hI;have hO2:ML w w.heap.size W (Cm A9 A).length:=by
   have h2:ML w w.heap.size W (EE A9 A (xs.map (·.name))).length:=hO;rw[hS,HE.out] at h2;exact h2
  have HO:=Hi hO2;have OI:=Hi hK2;have HD:=Hi (show w.heap.size≤D from Ah Cq.Ao.size hD);have cb:W.cell? ⟨w.heap.size,0,none⟩=some (.int .i64 ((Cm A9 A).length:Int)):=cr hO2.box;have Jp:=Cb W w.heap.size 0 _ _ hO2.box;have hu2:=(A7.refl (fun k=>k=w.heap.size) W).setCell (p:=⟨w.heap.size,0,none⟩) (.inl rfl) (.int .i64 ((Cm A9 A).length:Int))
  have DW:=Hi (show(W.setCell ⟨w.heap.size,0,none⟩ (.int .i64 ((Cm A9 A).length:Int))).heap[D]?=some (.deferred (some [])) from(hu2.block D (BZ.1 hK2).1 (fun e=>by
   rw[e,hO2.box] at hK2;cases hK2)).trans hK2)
  have NH:=Hi (hO2.Ao.setCell (p:=⟨w.heap.size,0,none⟩) (Ab _) (.int .i64 ((Cm A9 A).length:Int)))
  have Tt:=Hi (show((W.setCell ⟨w.heap.size,0,none⟩ (.int .i64 ((Cm A9 A).length:Int))).putObj D (.deferred none)).cell? ⟨w.heap.size,0,none⟩=some (.int .i64 ((Cm A9 A).length:Int)) from by
   rw[AY _ _ _ _ _ _ (ME (Bh W w.heap.size 0 _ _ _ hO2.box) DW rfl)];rfl)
  clear hS hI hK2 hD hO hO2 hu2
  gi_wp2
  refine⟨by simp,.inl ⟨_,_,rfl,run_takeDeferred DW,?_⟩⟩;have hu:A7 (fun i=>i=D) (W.setCell ⟨w.heap.size,0,none⟩ (.int .i64 ((Cm A9 A).length:Int))) ((W.setCell ⟨w.heap.size,0,none⟩ (.int .i64 ((Cm A9 A).length:Int))).putObj D (.deferred none)):=A7.of_grownBy (F:=fun i=>i=D) (grownBy_putObj' _ D (.deferred none)) (fun i e=>by cases e;rfl);exact⟨_,(by simp[results,results13,go_sem,Tt.out]),rfl,Bu NH hu (fun i e=>by rw[e];exact HD.out) NH.size⟩
end Mem
end Go.Proofs.YtmbbhdebddbhoaaGreat
