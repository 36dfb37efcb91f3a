/- FilAlive ManA -/
import Derived.Test.YtmbbhdebddbhoaaGreatR17
import Derived.Shelf.SlGeneric
import Derived.Shelf.Slices.CompactS
import Derived.Shelf.Slices.Clone
import Derived.Shelf.Slices.Equal
import Derived.Ground.NamesProg
import Derived.Ground.Names2Prog
import Derived.Lib.OwnBridge
import Derived.Shelf.Slices.Empties2
import Derived.Shelf.Strconv.Itoa3
import Derived.Laws.ResultCell
set_option maxRecDepth 100000
set_option linter.all false
namespace Go.Proofs.YtmbbhdebddbhoaaGreat
open Tryz
namespace Fil
theorem aqL(k:T)(F:M):((del k F).map cost).sum≤(F.map cost).sum:=by
 unfold del
 induction F with
 |nil=>simp
 |cons p F ih=>
  rw[List.filter_cons];split
  ·simp only[BL,Dq];omega
  ·simp only[BL,Dq];omega
theorem aA2{F:M}(hu:Up F)(c:Aj):used (Aj.on F c)≤used F+(8+c.name.length+c.data.length):=by
 unfold Aj.on used;have hd:=aqL c.name F;split
 ·omega
 ·have hp:=((ZF (v:=c.data) hu c.name).map cost).sum_nat;rw[hp,BL,Dq];have:cost (c.name,c.data)=8+c.name.length+c.data.length:=rfl;omega
def Fx(l:List Aj):Nat:=(l.map fun c=>8+c.name.length+c.data.length).sum
theorem anU{l:List Aj}{c:Aj}(h:c∈l):8+c.name.length+c.data.length≤Fx l:=by
 unfold Fx
 induction l with
 |nil=>simp at h
 |cons x l ih=>
  rw[BL,Dq];rcases Bt.1 h with rfl|h
  ·omega
  ·have:=ih h;omega
theorem VQ{F:M}(hu:Up F)(l:List Aj):used (made F l)≤used F+Fx l:=by
 induction l generalizing F with
 |nil=>exact Nat.le_add_right _ _
 |cons c l ih=>
  have h1:=ih (hu.on c);have h2:=aA2 hu c
  show used (made (Aj.on F c) l)≤_
  unfold Fx at h1 ⊢;rw[BL,Dq];omega
theorem ah5(l:List Aj):rowLen (group l)≤2+Fx l:=by
 unfold rowLen Fx group
 induction l with
 |nil=>simp
 |cons c l ih=>
  simp only[List.flatMap_cons,CF,JH,BL,Dq,List.map_nil,List.sum_nil,Br] at ih ⊢;omega
def C8(n:Nat):Nat:=sz n*64 -4
def Gu(n:Nat)(A:M)(l:List Aj):Int:=if l.all Aj.may=false then 2 else if C8 n < used (made A l) then 4 else 0
def F9(n:Nat)(A:M)(l:List Aj):M:=if l.all Aj.may=true∧used (made A l)≤C8 n then made A l else A
end Fil
section
open Go.RowKit Go.Maps
open Fil
def EJ(fz:Bool)(w:World)(b y:Nat)(bl:Nat→Prop)(n N:Nat)(A:M):Prop:=
 ∃ D fp m x gv F,Bl w b D fp∧CK w y b m x gv F∧¬ fp m∧Fil.Calm D F∧(fz=false→D.left= -1)∧D.n=n∧F.w.gen≤N∧F.m=A∧(∀ k,fp k∨RX y m x gv k→bl k)
abbrev Rt:=EJ false
def rT:List TypeId:=[117,195,113,207,27]
def Gt(w:World)(bl:Nat→Prop)(k:Nat):Prop:=bl k∧∀ t,AA w k t→t∈rT
theorem Gt.not{w:World}{bl:Nat→Prop}{k:Nat}{t:TypeId}(h:Gt w bl k)(hb:AA w k t)(ht:t∉rT):False:=ht (h.2 t hb)
section
variable {w w':World}{b y:Nat}{bl:Nat→Prop}{n N:Nat}{A:M}{fz:Bool}
theorem EJ.upd{P:Nat→Prop}(h:EJ fz w b y bl n N A)(hu:A7 P w w')(hs:∀ k,AA w k 9→¬ P k)(hP:∀ k,bl k→¬ P k):EJ fz w' b y bl n N A:=by
 obtain⟨D,fp,m,x,gv,F,h1,h2,h3,h4,h5,h6,h7,h8,h9⟩:=h;exact⟨D,fp,m,x,gv,F,h1.upd hu (fun k hk=>hP k (h9 k (.inl hk))),h2.upd hu hs (fun k hk=>hP k (h9 k (.inr hk))),h3,h4,h5,h6,h7,h8,h9⟩
theorem EJ.below(h:EJ fz w b y bl n N A)(hb:Bw w w'):EJ fz w' b y bl n N A:=h.upd (ub hb) (fun _ _ f=>f) (fun _ _ f=>f)
theorem EJ.more{N':Nat}(h:EJ fz w b y bl n N A)(hN:N≤N'):EJ fz w b y bl n N' A:=by
 obtain⟨D,fp,m,x,gv,F,h1,h2,h3,h4,h5,h6,h7,h8,h9⟩:=h;exact⟨D,fp,m,x,gv,F,h1,h2,h3,h4,h5,h6,by omega,h8,h9⟩
theorem EJ.up(h:EJ fz w b y bl n N A):Up A∧Fil.Good A∧used A≤C8 n∧8≤n∧n≤16384:=by
 obtain⟨D,fp,m,x,gv,F,h1,h2,h3,h4,h5,h6,h7,h8,h9⟩:=h;subst h8 h6;refine⟨h4.up,h4.good,?_,h4.n8,h4.disk.fine.n2⟩;have:=h4.room;unfold St.room at this;rw[h4.size] at this;exact this
theorem ZJ{n:Nat}(h:n≤16384):C8 n≤524288:=by unfold C8 sz lg;omega
theorem dI{D:Dsk}{fp:Nat→Prop}{m x:Nat}{gv:Value}{F:St}(hd:Bl w b D fp)(hf:CK w y b m x gv F)(h9:∀ k,fp k∨RX y m x gv k→bl k)(k:Nat)(hk:fp k∨k=y∨BD x gv k):Gt w bl k:=by
 refine⟨h9 k (hk.imp id (fun e=>e.elim .inl (fun e=>.inr (.inr e)))),fun t hb=>?_⟩;unfold rT;rcases hk with e|e|e
 ·by_cases h1:t=117
  ·subst h1;simp
  ·by_cases h2:t=195
   ·subst h2;simp
   ·exact(hd.Cv _ e h1 h2 hb).elim
 ·subst e;by_cases h1:t=113
  ·subst h1;simp
  ·exact(AA.ne hb hf.blk h1 rfl).elim
 ·rcases hf.Dl.kind e with g|g
  ·by_cases h1:t=207
   ·subst h1;simp
   ·exact(AA.ne hb g h1 rfl).elim
  ·by_cases h1:t=27
   ·subst h1;simp
   ·exact(AA.ne hb g h1 rfl).elim
theorem A7.noS{bl:Nat→Prop}(hu:A7 (Gt w bl) w w'){k:Nat}{t:TypeId}{cs:Array Value}{fr:Nat×Nat}(h:w.heap[k]?=some (.cells cs t fr))(ht:t∉rT):w'.heap[k]?=some (.cells cs t fr):=
 (hu.block k (Ai h) (fun e=>e.not ⟨_,_,h⟩ ht)).trans h
theorem ah7{D:Dsk}{F:St}(h:Fil.Calm D F):F.w.groups.length≤20000:=by
 have hw:=h.Dl;unfold logAt at hw;obtain⟨g1,g2,g3⟩:=Zt h.n8;rw[h.Qy,h.wn,h.log,←h.disk.now] at hw;exact(akK h.disk.fine (by omega) (by omega) hw).2.1
def Ti(w:World)(b y:Nat)(bl:Nat→Prop)(n N:Nat)(A A':M):Prop:=
 ∃ D fp m x gv F,Bl w b D fp∧CK w y b m x gv F∧¬ fp m∧F.fault=40∧D.loose.length≤100000000∧D.n=n∧(Fil.Good A∧used A≤C8 n∧n≤16384)∧F.m=A∧(∀ keep,∃ F' D',aQ (D.Gd keep) F' D'∧D'.left= -1∧F'.w.gen≤N∧(F'.m=A∨F'.m=A'))∧(∀ k,fp k∨RX y m x gv k→bl k)
theorem Ti.upd{P:Nat→Prop}{A':M}(h:Ti w b y bl n N A A')(hu:A7 P w w')(hs:∀ k,AA w k 9→¬ P k)(hP:∀ k,bl k→¬ P k):Ti w' b y bl n N A A':=by
 obtain⟨D,fp,m,x,gv,F,h1,h2,h3,h4,h5,h6,h7,h8,h9,Ij⟩:=h;exact⟨D,fp,m,x,gv,F,h1.upd hu (fun k hk=>hP k (Ij k (.inl hk))),h2.upd hu hs (fun k hk=>hP k (Ij k (.inr hk))),h3,h4,h5,h6,h7,h8,h9,Ij⟩
def Tj(fz:Bool)(w:World)(b y:Nat)(bl:Nat→Prop)(n N:Nat)(A:M)(r:Int×M)(c:Int):Prop:=
 (c=r.1∧EJ fz w b y bl n N r.2)∨(fz=true∧c=40∧r.1=0∧Ti w b y bl n N A r.2)
theorem Tj.calm{r:Int×M}{c:Int}(h:Tj false w b y bl n N A r c):c=r.1∧Rt w b y bl n N r.2:=by
 rcases h with h|⟨h,_⟩
 ·exact h
 ·cases h
theorem Tj.zero{r:Int×M}(h:Tj fz w b y bl n N A r 0):r.1=0∧EJ fz w b y bl n N r.2:=by
 rcases h with h|⟨_,h,_⟩
 ·exact⟨h.1.symm,h.2⟩
 ·cases h
theorem z8(l:List (Dsk→Dsk×Int))(D:Dsk)(h:∀ f∈l,∀ D,(f D).1.loose.length≤D.loose.length+1000000)(hl:l.length≤4):(doS l D).1.loose.length≤D.loose.length+4000000:=by
 have:=afX 1000000 l D h;omega
theorem ay4(D:Dsk)(L:Bn):(Dm D L).1.loose.length≤D.loose.length+4000000:=by
 have hd:=z8 L.L9 D (fun f hf D=>by
  unfold Bn.L9 at hf;simp only[Bt,List.not_mem_nil,or_false] at hf;rcases hf with rfl|rfl
  ·have:=Dsk.Te D (L.from_:Int) (Wal.mark ((L.gen+1) % 18446744073709551616) 0);rw[Wal.Nu] at this
   show(D.write (L.from_:Int) (Wal.mark ((L.gen+1) % 18446744073709551616) 0)).1.loose.length≤_
   omega
  ·have:=Dsk.TP D;omega) (by show 2≤4;omega)
 unfold Dm;split
 ·show D.loose.length≤_;omega
 ·split<;>exact hd
theorem apZ(D:Dsk)(L:Bn)(l:List T)(hl:rowLen l≤10000000):(wappend D L l).1.loose.length≤D.loose.length+4000000:=by
 unfold wappend;split
 ·show D.loose.length≤_;omega
 ·split
  ·show D.loose.length≤_;omega
  ·rename_i s hs
   have Fg:s.length≤rowLen l+68:=by
    have:=zJ l;unfold J8 at this;rw[hs] at this;exact this
   have hd:=z8 (L.acts s) D (fun f hf D=>by
    unfold Bn.acts at hf;simp only[Bt,List.not_mem_nil,or_false] at hf;rcases hf with rfl|rfl|rfl|rfl
    ·have:=Dsk.Te D ((L.from_+1+L.used:Nat):Int) s
     show(D.write ((L.from_+1+L.used:Nat):Int) s).1.loose.length≤_
     omega
    ·have:=Dsk.TP D;omega
    ·have:=Dsk.Te D (L.from_:Int) (Wal.mark L.gen (L.used+s.length / 64));rw[Wal.Nu] at this
     show(D.write (L.from_:Int) (Wal.mark L.gen (L.used+s.length / 64))).1.loose.length≤_
     omega
    ·have:=Dsk.TP D;omega) (by show 4≤4;omega)
   split
   ·show D.loose.length≤_;omega
   ·split<;>exact hd
theorem avU(D:Dsk)(F:St)(m:M)(hu:used m≤10000000):(Og D F m).1.loose.length≤D.loose.length+8000000:=by
 have ha:=afc m
 have hd:=z8 (GV F m) D (fun f hf D=>by
  unfold GV at hf;simp only[Bt,List.not_mem_nil,or_false] at hf;rcases hf with rfl|rfl|rfl|rfl
  ·have:=Dsk.Te D ((Cs F.log F.size (1 -F.Av):Nat):Int) (PQ m)
   show(D.write ((Cs F.log F.size (1 -F.Av):Nat):Int) (PQ m)).1.loose.length≤_
   omega
  ·have:=Dsk.TP D;omega
  ·have:=Dsk.Te D ((0:Nat):Int) (Fil.mark (1 -F.Av) ((F.w.gen+1) % 18446744073709551616));rw[Fil.Nu] at this
   show(D.write ((0:Nat):Int) (Fil.mark (1 -F.Av) ((F.w.gen+1) % 18446744073709551616))).1.loose.length≤_
   omega
  ·have:=Dsk.TP D;omega) (by show 4≤4;omega)
 have hr:=ay4 (doS (GV F m) D).1 F.w;unfold Og;split
 ·split
  ·show(Dm (doS (GV F m) D).1 F.w).1.loose.length≤_;omega
  ·show(Dm (doS (GV F m) D).1 F.w).1.loose.length≤_;omega
 ·show(doS (GV F m) D).1.loose.length≤_;omega
theorem yN(D:Dsk)(F:St)(l:List Aj)(h1:rowLen (group l)≤10000000)(h2:used (made F.m l)≤10000000):(J7 D F l).1.loose.length≤D.loose.length+8000000:=by
 have ha:=apZ D F.w (group l) h1;have hl:=avU D F (made F.m l) h2;unfold J7;split
 ·show D.loose.length≤_;omega
 ·split
  ·show D.loose.length≤_;omega
  ·split
   ·show D.loose.length≤_;omega
   ·split
    ·split
     ·show(wappend D F.w (group l)).1.loose.length≤_;omega
     ·show(wappend D F.w (group l)).1.loose.length≤_;omega
    ·exact hl
theorem agH{a:Option Addr}{cap:Nat}{l:List Aj}(h:EJ fz w b y bl n N A)(hN:N < 1000000000)(hL:DW w a l)(hlen:l.length≤100000)(hw:Fx l≤900000):
  Calls prog 32 #[.pointer (some ⟨y,0,none⟩),.slice a l.length cap] w fun e w'=>∃ c:Int,e=.returned (.int .i64 c)∧∃ Bu,Tj fz w' b y Bu n (N+1) A (Gu n A l,F9 n A l) c∧A7 (Gt w bl) w w'∧∀ k,Bu k→bl k∨w.heap.size≤k:=by
 have E5:=h.up;obtain⟨D,fp,m,x,gv,F,h1,h2,h3,h4,h5,h6,h7,h8,h9⟩:=h;have Cb:∀ c∈l,c.name.length≤1000000∧c.data.length≤maxLen:=fun c hc=>by
  have:=anU hc;unfold maxLen;omega
 have Im:=ZJ E5.2.2.2.2;have GD:=VQ E5.1 l;have ED:F.room=C8 n:=by unfold St.room C8;rw[h4.size,h6]
 have hgw:=ah5 l;have I9:=Rn A;have GU:D.loose.length=0:=by rw[h4.disk.loose];rfl
 have Fg:=yN D F l (by omega) (by rw[h8];omega);have key:Calls prog 32 #[.pointer (some ⟨y,0,none⟩),.slice a l.length cap] w fun e w'=>Rs w y b m x gv fp (J7 D F l) e w':=by
  by_cases AY:l.all Aj.may=true
  ·exact agl h1 h2 h3 hL hlen Cb h4.good (by rw[h8];omega) (by rw[h8];omega) (by rw[h4.size];have:=h4.disk.fine.n2;unfold sz;omega) (by omega) (by omega) (by have:=ah7 h4;omega) h4.fault AY
  ·exact agk h1 h2 h3 hL hlen (fun c hc=>⟨Ap (Cb c hc).1 (by unfold maxLen;omega),(Cb c hc).2⟩) h4.fault (by simpa using AY)
 refine key.mono ?_;rintro e w'⟨m',⟨he,fp',EN,p1,p2,p3,p4,p5,p6⟩,Xf⟩;refine⟨_,he,fun k=>bl k∨w.heap.size≤k,?_,p4.mono (fun k hk=>dI h1 h2 h9 k hk),fun k hk=>hk⟩;have De:∀ k,fp' k∨RX y m' x EN k→bl k∨w.heap.size≤k:=by
  rintro k (hk|hk|hk|hk)
  ·exact(p5 k hk).imp (fun e=>h9 k (.inl e)) id
  ·exact .inl (h9 k (.inr (.inl hk)))
  ·subst hk;exact Xf.imp (fun e=>h9 _ (.inr (.inr (.inl e)))) id
  ·exact(p6 k hk).imp (fun e=>h9 k (.inr (.inr (.inr e)))) id
 by_cases AY:l.all Aj.may=true
 ·by_cases hr:used (made F.m l)≤F.room
  ·have hc:=afv h4 (by omega) AY hr;have Sl:Gu n A l=0:=(by unfold Gu;rw[Aa (by simp[AY]),Aa (by rw[←h8,←ED];omega)]);have KU:F9 n A l=made A l:=(by unfold F9;rw[Ab ⟨AY,by rw[←h8,←ED];exact hr⟩]);rw[Sl,KU];rcases hc.out with⟨o1,o2,o3,o4,o5⟩|⟨o1,o2,o3,o4,o5,o6⟩
   ·exact .inl ⟨o1,_,fp',m',x,EN,_,p1,p2,p3,o2,fun e=>o5 (h5 e),hc.n.trans h6,by omega,by rw[←h8];exact o3,De⟩
   ·refine .inr ⟨?_,o1,rfl,_,fp',m',x,EN,_,p1,p2,p3,o3,by omega,hc.n.trans h6,⟨E5.2.1,E5.2.2.1,E5.2.2.2.2⟩,o4.trans h8,fun keep=>?_,De⟩
    ·cases fz with
     |false=>exact absurd (h5 rfl) o2
     |true=>rfl
    ·obtain⟨F',D',q1,q2,q3,q4⟩:=o6 keep;exact⟨F',D',q1,q2,by omega,by rw[←h8];exact q4⟩
  ·have e1:J7 D F l=(D,F,4):=by
    unfold J7;rw[Aa (by simp[h4.fault]),Aa (by simp[AY]),Ab (by omega)]
   have Sl:Gu n A l=4:=(by unfold Gu;rw[Aa (by simp[AY]),Ab (by rw[←h8,←ED];omega)]);have KU:F9 n A l=A:=(by unfold F9;rw[Aa (fun e=>hr (by rw[h8,ED];exact e.2))]);rw[e1] at p1 p2 ⊢;rw[Sl,KU];exact .inl ⟨rfl,D,fp',m',x,EN,F,p1,p2,p3,h4,h5,h6,by omega,h8,De⟩
 ·have FV:l.all Aj.may=false:=by simpa using AY
  have e1:J7 D F l=(D,F,2):=by
   unfold J7;rw[Aa (by simp[h4.fault]),Ab FV]
  have Sl:Gu n A l=2:=by unfold Gu;rw[Ab FV]
  have KU:F9 n A l=A:=by unfold F9;rw[Aa (fun e=>AY e.1)]
  rw[e1] at p1 p2 ⊢;rw[Sl,KU];exact .inl ⟨rfl,D,fp',m',x,EN,F,p1,p2,p3,h4,h5,h6,by omega,h8,De⟩
theorem EJ.loosen(h:Rt w b y bl n N A):EJ true w b y bl n N A:=by
 obtain⟨D,fp,m,x,gv,F,h1,h2,h3,h4,h5,h6⟩:=h;exact⟨D,fp,m,x,gv,F,h1,h2,h3,h4,(fun e=>by cases e),h6⟩
theorem agT{D D':Dsk}{fp:Nat→Prop}{F:St}(hd:Bl w b D fp)(h:aQ D F D')(aj3:D'.left= -1)(GU:D.loose.length≤300000000)(hN:F.w.gen≤N):
  Calls prog 18 #[.pointer (some ⟨b,0,none⟩)] w fun e w'=>∃ y Bu,e=.returned (.tuple #[.pointer (some ⟨y,0,none⟩),.int .i64 0])∧Rt w' b y Bu D.n N F.m∧A7 fp w w'∧(∀ k,Bu k→fp k∨w.heap.size≤k)∧w.heap.size≤y:=
 (ash hd h.1 GU).mono (by
  rintro e w'⟨y,m,x,gv,fp',rfl,p1,p2,p3,p4,p5,p6⟩;refine⟨y,fun k=>fp k∨w.heap.size≤k,rfl,⟨D',fp',m,x,gv,F,p1,p2,p3,h.2.1,fun _=>aj3,h.2.2,hN,rfl,?_⟩,p4,fun k hk=>hk,p6 y (.inl rfl)⟩;rintro k (hk|hk)
  ·exact p5 k hk
  ·exact .inr (p6 k hk))
theorem asw(n:Nat)(hn:8≤n)(EP:n≤16384){fp:Nat→Prop}(hd:Bl w b (Dsk.new n) fp):
  Calls prog 18 #[.pointer (some ⟨b,0,none⟩)] w fun e w'=>∃ y Bu,e=.returned (.tuple #[.pointer (some ⟨y,0,none⟩),.int .i64 0])∧Rt w' b y Bu n 0 []∧A7 fp w w'∧(∀ k,Bu k→fp k∨w.heap.size≤k)∧w.heap.size≤y:=
 agT (N:=0) hd (Fil.Calm.new hn EP).opens rfl (by show(0:Nat)≤_;omega) (Ac 0)
theorem asu(h:EJ fz w b y bl n N A)(k:T)(hk:k.length≤maxLen):
  Calls prog 143 #[.pointer (some ⟨y,0,none⟩),.string (bs k)] w fun e w'=>e=.returned (.tuple #[.string (bs ((Fil.get A k).getD [])),.bool (Fil.get A k).isSome])∧EJ fz w' b y bl n N A∧Bw w w':=by
 have h0:=h;obtain⟨D,fp,m,x,gv,F,h1,h2,h3,h4,h5,h6,h7,h8,h9⟩:=h;refine(arV h2 k hk).mono ?_;rintro e w'⟨rfl,hb⟩;rw[h8];exact⟨rfl,h0.below hb,hb⟩
theorem asv(h:EJ fz w b y bl n N A):
  Calls prog 112 #[.pointer (some ⟨y,0,none⟩)] w fun e w'=>∃ v,e=.returned v∧w'.ownsRow 0 9 1 v A.length (strCells (A.map (·.1)))∧EJ fz w' b y bl n N A∧Bw w w'∧∀ k,v.ownBlock=some k→w.heap.size≤k:=by
 have h0:=h;have E5:=h.up;have Im:=ZJ E5.2.2.2.2;have I9:=Rn A;obtain⟨D,fp,m,x,gv,F,h1,h2,h3,h4,h5,h6,h7,h8,h9⟩:=h;refine(as8 h2 h4.good (by rw[h8];omega)).mono ?_;rw[h8];rintro e w'⟨v,rfl,p1,p2,p3⟩;exact⟨v,rfl,p1,h0.below p2,p2,p3⟩
theorem afs{W:World}{g:Nat}{c:Aj}(h:W.heap[g]?=some (.cells #[.string (bs c.name),.string (bs c.data),.bool c.gone] 65)):DW W (some ⟨g,0,none⟩) [c]:=fun i hi=>by
 obtain rfl:i=0:=by simpa using hi
 refine⟨⟨g,0,none⟩,rfl,?_⟩;constructor
 ·rw[add_plain,add_plain,BA W g _ _ _ _ h];rfl
 ·rw[add_plain,add_plain,BA W g _ _ _ _ h];rfl
 ·rw[add_plain,add_plain,BA W g _ _ _ _ h];rfl
end
end
section
open Go.RowKit Go.Maps
open Fil
theorem EJ.shrink{w:World}{b y:Nat}{bl:Nat→Prop}{n N:Nat}{A:M}{fz:Bool}(h:EJ fz w b y bl n N A):EJ fz w b y (fun k=>bl k∧k < w.heap.size) n N A:=by
 obtain⟨D,fp,m,x,gv,F,h1,h2,h3,h4,h5,h6,h7,h8,h9⟩:=h;exact⟨D,fp,m,x,gv,F,h1,h2,h3,h4,h5,h6,h7,h8,fun k hk=>⟨h9 k hk,hk.elim (h1.lt k) (h2.lt k)⟩⟩
def UR(B:Nat)(w0 w:World)(b y n N:Nat)(A:M)(X:Nat→Prop):Prop:=Below B w0 w∧B≤w.heap.size∧(∀ k,X k→k < w.heap.size)∧∃ bl,Rt w b y bl n N A∧∀ k,bl k→B≤k∧¬ X k
def Kept(X:Nat→Prop)(w w':World):Prop:=∀ k,X k→w'.heap[k]?=w.heap[k]?
section
variable {B:Nat}{w0 w w':World}{b y n N:Nat}{A:M}{X:Nat→Prop}
theorem UR.step(h:UR B w0 w b y n N A X)(hb:Bw w w'):UR B w0 w' b y n N A X:=by
 obtain⟨h1,h2,hx,bl,h3,h4⟩:=h;exact⟨h1.trans (hb.mono h2),Ap h2 hb.size,fun k hk=>DK (hx k hk) hb.size,bl,h3.below hb,h4⟩
theorem UR.turn{bl Bu:Nat→Prop}{A':M}{N' y':Nat}(h1:Below B w0 w)(h2:B≤w.heap.size)(hx:∀ k,X k→k < w.heap.size)(h4:∀ k,bl k→B≤k∧¬ X k)(g:Rt w' b y' Bu n N' A')(hu:A7 (Gt w bl) w w')(hs:∀ k,Bu k→bl k∨w.heap.size≤k):UR B w0 w' b y' n N' A' X∧Kept X w w':=
 ⟨⟨Ca h1 hu (fun k hk=>(h4 k hk.1).1) h2,Ap h2 hu.size,fun k hk=>DK (hx k hk) hu.size,Bu,g,fun k hk=>(hs k hk).elim (h4 k) (fun e=>⟨Ap h2 e,fun f=>by have:=hx k f;omega⟩)⟩,
  fun k hk=>hu.block k (hx k hk) (fun f=>(h4 k f.1).2 hk)⟩
end
theorem awL{w:World}(n:Nat)(h1:1≤n)(h2:n≤16384):
  Calls prog 62 #[.int .i64 n] w fun e w'=>∃ b fp,e=.returned (.tuple #[.pointer (some ⟨b,0,none⟩),.int .i64 0])∧Bl w' b (Dsk.new n) fp∧Bw w w'∧∀ k,fp k→w.heap.size≤k:=awM n w h1 h2
def MyF(B:Nat)(w0 w:World)(b y n N:Nat)(A:M):Prop:=Below B w0 w∧B≤w.heap.size∧∃ bl,Rt w b y bl n N A∧∀ k,bl k→B≤k
section
variable {B:Nat}{w0 w w':World}{b y n N:Nat}{A:M}
theorem awE{fp:Nat→Prop}(h1:Below B w0 w)(h2:B≤w.heap.size)(hn:8≤n)(EP:n≤16384)(hd:Bl w b (Dsk.new n) fp)(hf:∀ k,fp k→B≤k):
  Calls prog 18 #[.pointer (some ⟨b,0,none⟩)] w fun e w'=>∃ y,e=.returned (.tuple #[.pointer (some ⟨y,0,none⟩),.int .i64 0])∧MyF B w0 w' b y n 0 []:=by
 refine(asw n hn EP hd).mono ?_;rintro e w'⟨y,Bu,rfl,g1,g2,g3,_⟩;exact⟨y,rfl,Ca h1 g2 hf h2,Ap h2 g2.size,Bu,g1,fun k hk=>(g3 k hk).elim (hf k) (fun e=>Ap h2 e)⟩
theorem Aw(w:World)(o:Obj):Bw w (w.alloc o):=(Af _ _).alloc (Ac _) _
end
end
namespace Man
open Go.RowKit Wal
end Man
section
open Go.RowKit Go.Shelf
def awj:Go.Shelf.Ren:=⟨fun|16=>114|n=>n,fun|24=>27|9=>9|4=>4|n=>n,fun|n=>n⟩
theorem ac5:Go.Proofs.Lays2.n16 prog awj:={
 mixed:=by kernel_rfl
 f16:=func114.trans (congrArg some (by kernel_rfl))
 t4:=underlying4
 a4:=Tryz.isAgg4
 z4:=Tryz.sizeOf4
 v4:=Tryz.zeroValue4
 t9:=underlying9
 a9:=Tryz.isAgg9
 z9:=Tryz.sizeOf9
 v9:=Tryz.zeroValue9
 t24:=underlying27
 a24:=Tryz.isAgg27
 z24:=Tryz.sizeOf27
 v24:=Tryz.zeroValue27
 i9:=by kernel_rfl }
def ac6:Go.Shelf.Ren:=⟨fun|194=>116|n=>n,fun|31=>27|9=>9|3=>3|4=>4|0=>0|n=>n,fun|n=>n⟩
theorem su:Go.Proofs.Lays.n194 prog ac6:={
 mixed:=by kernel_rfl
 f194:=func116.trans (congrArg some (by kernel_rfl))
 t0:=underlying0
 a0:=Tryz.isAgg0
 z0:=Tryz.sizeOf0
 v0:=Tryz.zeroValue0
 t3:=underlying3
 a3:=Tryz.isAgg3
 z3:=Tryz.sizeOf3
 v3:=Tryz.zeroValue3
 t4:=underlying4
 a4:=Tryz.isAgg4
 z4:=Tryz.sizeOf4
 v4:=Tryz.zeroValue4
 t9:=underlying9
 a9:=Tryz.isAgg9
 z9:=Tryz.sizeOf9
 v9:=Tryz.zeroValue9
 t31:=underlying27
 a31:=Tryz.isAgg27
 z31:=Tryz.sizeOf27
 v31:=Tryz.zeroValue27 }
def awn:Go.Shelf.Ren:=⟨fun|193=>208|n=>n,fun|31=>27|9=>9|4=>4|3=>3|0=>0|n=>n,fun|n=>n⟩
theorem sw:Go.Proofs.Lays.n193 prog awn:={
 mixed:=by kernel_rfl
 f193:=func208.trans (congrArg some (by kernel_rfl))
 t0:=underlying0
 a0:=Tryz.isAgg0
 z0:=Tryz.sizeOf0
 v0:=Tryz.zeroValue0
 t3:=underlying3
 a3:=Tryz.isAgg3
 z3:=Tryz.sizeOf3
 v3:=Tryz.zeroValue3
 t4:=underlying4
 a4:=Tryz.isAgg4
 z4:=Tryz.sizeOf4
 v4:=Tryz.zeroValue4
 t9:=underlying9
 a9:=Tryz.isAgg9
 z9:=Tryz.sizeOf9
 v9:=Tryz.zeroValue9
 t31:=underlying27
 a31:=Tryz.isAgg27
 z31:=Tryz.sizeOf27
 v31:=Tryz.zeroValue27 }
end
namespace Man
open Go.RowKit Go.Maps Go.Sort Go.Shelf Go.Lib
def AX(l:List (List UInt8)):List (List UInt8):=Lib.compact (l.mergeSort fun x y=>decide (x≤y))
theorem JE(l:List (List UInt8)):strCells l=l.map encStr:=by unfold strCells;rfl
theorem az8(l:List (List UInt8)):(l.map bs).map Value.string=strCells l:=by unfold strCells;rw[List.map_map];rfl
abbrev Bp(w:World)(base:Nat)(v:Value)(l:List (List UInt8)):Prop:=w.ownsRow base 9 1 v l.length (strCells l)
theorem Bp.cells{w:World}{base:Nat}{l:List (List UInt8)}{g n cap:Nat}(h:Bp w base (.slice (some ⟨g,0,none⟩) n cap) l):
  n=l.length∧∀ j,j < (l.map bs).length→w.cell? ⟨g,0+j,none⟩=some (.string ((l.map bs).getD j ByteArray.empty)):=by
 rcases h.2 with⟨e0,_⟩|⟨g',cap',cur,e0,hb,hg,hn,hm,hs,ht⟩
 ·cases e0
 ·injection e0 with e1 e2 e3
  injection e1 with e1
  injection e1 with e1
  subst e1;subst e2;subst e3;refine⟨rfl,fun j hj=>?_⟩;rw[Cf] at hj;have e1:(cur.toList.take (l.length*1))[j]?=(strCells l)[j]? :=by rw[ht]
  rw[List.getElem?_take,Ab (by omega),Dn,XL l j hj] at e1;simp only[World.cell?,hg,GJ];simp only[Option.isSome_none,Bool.false_eq_true,if_false];rw[e1,GY,IX,Cn hj];rfl
theorem Bp.parts{w:World}{base:Nat}{v:Value}{l:List (List UInt8)}(h:Bp w base v l):(v=.slice none 0 0∧l=[])∨∃ g cap,v=.slice (some ⟨g,0,none⟩) l.length cap∧base≤g∧l.length≤cap∧cap≤maxLen∧g < w.heap.size:=by
 rcases h.2 with⟨e0,h0⟩|⟨g,cap,cur,rfl,hb,hg,hn,hm,hs,ht⟩
 ·exact .inl ⟨e0,Ld.1 h0⟩
 ·exact .inr ⟨g,cap,rfl,hb,hn,hm,(CR.1 hg).1⟩
theorem aqB{w:World}{base:Nat}{v:Value}{l:List (List UInt8)}(h:Bp w base v l)(hl:l.length≤1000000):
  Calls prog 114 #[v] w fun e w'=>∃ v',e=.returned v'∧Bp w' w.heap.size v' l∧(v'=.slice none 0 0→l=[])∧Bw w w':=by
 rcases h.parts with⟨rfl,rfl⟩|⟨g,cap,rfl,_⟩
 ·refine(Any.slices_Clone_string_nil ac5 0 0 w).mono ?_;rintro e w'⟨rfl,rfl⟩;exact⟨_,rfl,by unfold Bp;rw[JE];exact EI _ _ _ _,fun _=>rfl,Af _ _⟩
 ·cases l with
  |nil=>
   refine(Any.slices_Clone_string_zero ac5 ⟨g,0,none⟩ cap w).mono ?_;rintro e w'⟨v',rfl,ho,hne,hb⟩;exact⟨v',rfl,by unfold Bp;rw[JE];exact ho,fun e=>absurd e hne,hb⟩
  |cons x l=>
   refine(Any.slices_Clone_string ac5 g 0 (x :: l).length cap ((x :: l).map bs) w (by simp) (by omega) h.cells.2).mono ?_;rintro e w'⟨v',rfl,ho,hne,hb⟩;rw[Gn (by simp),az8] at ho;exact⟨v',rfl,ho,fun e=>absurd e hne,hb⟩
theorem below_grow{B:Nat}{w0 w:World}(h:Below B w0 w)(hB:B≤w.heap.size)(os:Array Obj):Below B w0 (grow w os):=
 ⟨h.os,h.tape,h.output,by simp[grow];exact Ap h.size (by omega),fun k hk=>by
  rw[←h.block k hk];have:=h.size;simp[grow];exact Array.getElem?_append_left (by omega)⟩
theorem compact_length_le(l:List (List UInt8)):(Lib.compact l).length≤l.length:=by
 unfold Lib.compact Lib.compactUpTo;rw[Cf];exact Ap (NB _ _) (by simp)
theorem Un(l:List (List UInt8)):(AX l).length≤l.length:=by
 unfold AX;exact Ap (compact_length_le _) (by simp)
theorem aqa{l k:List (List UInt8)}(h:l.map bs=k.map bs):l=k:=by
 have e:∀ a b,bs a=bs b→a=b:=fun a b e=>by
  have:=congrArg (fun x:ByteArray=>x.data.toList) e;simpa[bs] using this
 exact(List.map_inj_right (fun {a b} h=>e a b h)).1 h
theorem arB{w:World}{base TJ:Nat}{v u:Value}{l k:List (List UInt8)}(h:Bp w base v l)(h2:Bp w TJ u k)(hl:l.length≤1000000)(hk:k.length≤1000000):
  Calls prog 208 #[v,u] w fun e w'=>e=.returned (.bool (decide (l=k)))∧Bw w w':=by
 obtain⟨q1,c1,rfl⟩:=Bg h;obtain⟨q2,c2,rfl⟩:=Bg h2;by_cases Ik:l.length=k.length
 ·rcases h.parts with⟨e1,e2⟩|⟨g,cap,e1,_⟩
  ·subst e2;cases e1;obtain rfl:k=[]:=Ld.1 Ik.symm;refine(Any.slices_Equal_string_empty sw none q2 0 0 c2 w (by omega)).mono ?_;rintro e w'⟨rfl,rfl⟩;exact⟨rfl,Af _ _⟩
  ·cases e1;rcases h2.parts with⟨e1,e2⟩|⟨g2,cap2,e1,_⟩
   ·subst e2;cases e1;obtain rfl:l=[]:=Ld.1 Ik;refine(Any.slices_Equal_string_empty sw _ none _ 0 0 w (by omega)).mono ?_;rintro e w'⟨rfl,rfl⟩;exact⟨rfl,Af _ _⟩
   ·cases e1;refine(Any.slices_Equal_string sw g 0 l.length c1 g2 0 k.length c2 (l.map bs) (k.map bs) w (by simp) (by simp) (by omega) (by omega) h.cells.2 h2.cells.2).mono ?_;rintro e w'⟨rfl,q,rfl⟩;refine⟨?_,F6 w q⟩;rw[Gn (by simp),Gn (by simp)];have:(l.map bs=k.map bs)↔l=k:=⟨aqa,fun e=>by rw[e]⟩;simp[this]
 ·refine(Any.slices_Equal_string_lens sw q1 q2 _ c1 _ c2 w Ik).mono ?_;rintro e w'⟨rfl,rfl⟩;refine⟨?_,Af _ _⟩;have:¬ l=k:=fun e=>Ik (by rw[e])
  simp[this]
end Man
section
open Go.RowKit Go.Shelf
end
namespace Man
open Go.RowKit Wal Fil
structure ND(w:World)(y:Nat)(A:M):Prop where
 gets:∀ W,Bw w W→∀ k:T,k.length≤1000→Calls prog 143 #[.pointer (some ⟨y,0,none⟩),.string (bs k)] W fun e w'=>e=.returned (.tuple #[.string (bs ((Fil.get A k).getD [])),.bool (Fil.get A k).isSome])∧Bw W w'
 small:∀ k:T,((Fil.get A k).getD []).length≤1000000
theorem Nw{W:World}{g:Nat}{a b c:Value}{t:TypeId}(h:W.heap[g]?=some (.cells #[a,b,c] t)):
  W.cell? ⟨g,0,none⟩=some a∧W.cell? ⟨g,1,none⟩=some b∧W.cell? ⟨g,2,none⟩=some c∧W.frozen? ⟨g,0,none⟩=false∧W.frozen? ⟨g,1,none⟩=false∧W.frozen? ⟨g,2,none⟩=false:=
 ⟨by rw[BA W g _ _ _ _ h];rfl,by rw[BA W g _ _ _ _ h];rfl,by rw[BA W g _ _ _ _ h];rfl,CJ W g 0 _ _ h,CJ W g 1 _ _ h,CJ W g 2 _ _ h⟩
end Man
end Go.Proofs.YtmbbhdebddbhoaaGreat
