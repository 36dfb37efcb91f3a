/- FilAlive ManA Sha1 -/
import Derived.Test.YtkmninbcgipliaaGreatDoorV5
import Derived.Shelf.SlGeneric
import Derived.Shelf.Slices.CompactS
import Derived.Shelf.Slices.Clone
import Derived.Shelf.Slices.Equal
import Derived.Ground.NamesProg
import Derived.Ground.Names2Prog
import Derived.Lib.OwnBridge
import Derived.Shelf.Slices.Empties2
import Derived.Shelf.Strconv.Itoa3
import Derived.Laws.ResultCell
import Derived.Laws.CopyRow
import Derived.BigRegion
set_option maxHeartbeats 4000000
set_option maxRecDepth 100000
set_option linter.all false
namespace Go.Proofs.YtkmninbcgipliaaGreatDoor
open Tryz
namespace Ag
theorem arK(k:T)(F:M):((del k F).map cost).sum≤(F.map cost).sum:=by
 unfold del
 induction F with
 |nil=>simp
 |cons p F ih=>
  rw[List.filter_cons];split
  ·simp only[Ca,DR];omega
  ·simp only[Ca,DR];omega
theorem aC5{F:M}(hu:Up F)(c:Am):used (Am.on F c)≤used F+(8+c.name.length+c.data.length):=by
 unfold Am.on used;have hd:=arK c.name F;split
 ·omega
 ·have hp:=((aK (v:=c.data) hu c.name).map cost).sum_nat;rw[hp,Ca,DR];have:cost (c.name,c.data)=8+c.name.length+c.data.length:=rfl;omega
def F8(l:List Am):Nat:=(l.map fun c=>8+c.name.length+c.data.length).sum
theorem aoz{l:List Am}{c:Am}(h:c∈l):8+c.name.length+c.data.length≤F8 l:=by
 unfold F8
 induction l with
 |nil=>simp at h
 |cons x l ih=>
  rw[Ca,DR];rcases Cc.1 h with rfl|h
  ·omega
  ·have:=ih h;omega
theorem Vj{F:M}(hu:Up F)(l:List Am):used (made F l)≤used F+F8 l:=by
 induction l generalizing F with
 |nil=>exact Nat.le_add_right _ _
 |cons c l ih=>
  have h1:=ih (hu.on c);have h2:=aC5 hu c
  show used (made (Am.on F c) l)≤_
  unfold F8 at h1 ⊢;rw[Ca,DR];omega
theorem ahR(l:List Am):rowLen (group l)≤2+F8 l:=by
 unfold rowLen F8 group
 induction l with
 |nil=>simp
 |cons c l ih=>
  simp only[Qg,CK,Lg,Ca,DR,Kr,List.sum_nil,BG] at ih ⊢;omega
def Co(n:Nat):Nat:=sz n*64 -4
def FC(n:Nat)(A:M)(l:List Am):Int:=if l.all Am.may=false then 2 else if Co n < used (made A l) then 4 else 0
def En(n:Nat)(A:M)(l:List Am):M:=if l.all Am.may=true∧used (made A l)≤Co n then made A l else A
end Ag
section
open Go.RowKit Go.Maps
open Ag
def Fa(fz:Bool)(w:World)(b y:Nat)(bl:Nat→Prop)(n N:Nat)(A:M):Prop:=
 ∃ D fp m x gv F,BB w b D fp∧Db w y b m x gv F∧¬ fp m∧Ag.Calm D F∧(fz=false→D.left= -1)∧D.n=n∧F.w.gen≤N∧F.m=A∧(∀ k,fp k∨Tc y m x gv k→bl k)
abbrev Qi:=Fa false
def lL:List TypeId:=[144,242,116,224,61]
def Gx(w:World)(bl:Nat→Prop)(k:Nat):Prop:=bl k∧∀ t,Bb w k t→t∈lL
theorem Gx.not{w:World}{bl:Nat→Prop}{k:Nat}{t:TypeId}(h:Gx w bl k)(hb:Bb w k t)(ht:t∉lL):False:=ht (h.2 t hb)
section
variable {w w':World}{b y:Nat}{bl:Nat→Prop}{n N:Nat}{A:M}{fz:Bool}
theorem Fa.upd{P:Nat→Prop}(h:Fa fz w b y bl n N A)(hu:A7 P w w')(hs:∀ k,Bb w k 9→¬ P k)(hP:∀ k,bl k→¬ P k):Fa fz w' b y bl n N A:=by
 obtain⟨D,fp,m,x,gv,F,h1,h2,h3,h4,h5,h6,h7,h8,h9⟩:=h;exact⟨D,fp,m,x,gv,F,h1.upd hu (fun k hk=>hP k (h9 k (.inl hk))),h2.upd hu hs (fun k hk=>hP k (h9 k (.inr hk))),h3,h4,h5,h6,h7,h8,h9⟩
theorem Fa.below(h:Fa fz w b y bl n N A)(hb:Bw w w'):Fa fz w' b y bl n N A:=h.upd (ub hb) (fun _ _ f=>f) (fun _ _ f=>f)
theorem Fa.more{N':Nat}(h:Fa fz w b y bl n N A)(hN:N≤N'):Fa fz w b y bl n N' A:=by
 obtain⟨D,fp,m,x,gv,F,h1,h2,h3,h4,h5,h6,h7,h8,h9⟩:=h;exact⟨D,fp,m,x,gv,F,h1,h2,h3,h4,h5,h6,by omega,h8,h9⟩
theorem Fa.up(h:Fa fz w b y bl n N A):Up A∧Ag.Good A∧used A≤Co n∧8≤n∧n≤16384:=by
 obtain⟨D,fp,m,x,gv,F,h1,h2,h3,h4,h5,h6,h7,h8,h9⟩:=h;subst h8 h6;refine⟨h4.up,h4.good,?_,h4.n8,h4.disk.fine.n2⟩;have:=h4.room;unfold St.room at this;rw[h4.size] at this;exact this
theorem aO{n:Nat}(h:n≤16384):Co n≤524288:=by unfold Co sz lg;omega
theorem fM{D:A8}{fp:Nat→Prop}{m x:Nat}{gv:Value}{F:St}(hd:BB w b D fp)(hf:Db w y b m x gv F)(h9:∀ k,fp k∨Tc y m x gv k→bl k)(k:Nat)(hk:fp k∨k=y∨BS x gv k):Gx w bl k:=by
 refine⟨h9 k (hk.imp id (fun e=>e.elim .inl (fun e=>.inr (.inr e)))),fun t hb=>?_⟩;unfold lL;rcases hk with e|e|e
 ·by_cases h1:t=144
  ·subst h1;simp
  ·by_cases h2:t=242
   ·subst h2;simp
   ·exact(hd.Dl _ e h1 h2 hb).elim
 ·subst e;by_cases h1:t=116
  ·subst h1;simp
  ·exact(Bb.ne hb hf.blk h1 rfl).elim
 ·rcases hf.DL.kind e with g|g
  ·by_cases h1:t=224
   ·subst h1;simp
   ·exact(Bb.ne hb g h1 rfl).elim
  ·by_cases h1:t=61
   ·subst h1;simp
   ·exact(Bb.ne hb g h1 rfl).elim
theorem A7.noS{bl:Nat→Prop}(hu:A7 (Gx w bl) w w'){k:Nat}{t:TypeId}{cs:Array Value}{fr:Nat×Nat}(h:w.heap[k]?=some (.cells cs t fr))(ht:t∉lL):w'.heap[k]?=some (.cells cs t fr):=
 (hu.block k (Ao h) (fun e=>e.not ⟨_,_,h⟩ ht)).trans h
theorem ahT{D:A8}{F:St}(h:Ag.Calm D F):F.w.groups.length≤20000:=by
 have hw:=h.DL;unfold logAt at hw;obtain⟨g1,g2,g3⟩:=aA h.n8;rw[h.Ri,h.wn,h.log,←h.disk.now] at hw;exact(alq h.disk.fine (by omega) (by omega) hw).2.1
def U4(w:World)(b y:Nat)(bl:Nat→Prop)(n N:Nat)(A A':M):Prop:=
 ∃ D fp m x gv F,BB w b D fp∧Db w y b m x gv F∧¬ fp m∧F.fault=40∧D.loose.length≤100000000∧D.n=n∧(Ag.Good A∧used A≤Co n∧n≤16384)∧F.m=A∧(∀ keep,∃ F' D',bY (D.GX keep) F' D'∧D'.left= -1∧F'.w.gen≤N∧(F'.m=A∨F'.m=A'))∧(∀ k,fp k∨Tc y m x gv k→bl k)
theorem U4.upd{P:Nat→Prop}{A':M}(h:U4 w b y bl n N A A')(hu:A7 P w w')(hs:∀ k,Bb w k 9→¬ P k)(hP:∀ k,bl k→¬ P k):U4 w' b y bl n N A A':=by
 obtain⟨D,fp,m,x,gv,F,h1,h2,h3,h4,h5,h6,h7,h8,h9,IZ⟩:=h;exact⟨D,fp,m,x,gv,F,h1.upd hu (fun k hk=>hP k (IZ k (.inl hk))),h2.upd hu hs (fun k hk=>hP k (IZ k (.inr hk))),h3,h4,h5,h6,h7,h8,h9,IZ⟩
def aZ(fz:Bool)(w:World)(b y:Nat)(bl:Nat→Prop)(n N:Nat)(A:M)(r:Int×M)(c:Int):Prop:=
 (c=r.1∧Fa fz w b y bl n N r.2)∨(fz=true∧c=40∧r.1=0∧U4 w b y bl n N A r.2)
theorem aZ.calm{r:Int×M}{c:Int}(h:aZ false w b y bl n N A r c):c=r.1∧Qi w b y bl n N r.2:=by
 rcases h with h|⟨h,_⟩
 ·exact h
 ·cases h
theorem zL(l:List (A8→A8×Int))(D:A8)(h:∀ f∈l,∀ D,(f D).1.loose.length≤D.loose.length+1000000)(hl:l.length≤4):(Bu l D).1.loose.length≤D.loose.length+4000000:=by
 have:=agE 1000000 l D h;omega
theorem azQ(D:A8)(L:BD):(DN D L).1.loose.length≤D.loose.length+4000000:=by
 have hd:=zL L.LZ D (fun f hf D=>by
  unfold BD.LZ at hf;simp only[Cc,List.not_mem_nil,or_false] at hf;rcases hf with rfl|rfl
  ·have:=A8.TY D (L.from_:Int) (Av.mark ((L.gen+1) % 18446744073709551616) 0);rw[Av.O4] at this
   show(D.write (L.from_:Int) (Av.mark ((L.gen+1) % 18446744073709551616) 0)).1.loose.length≤_
   omega
  ·have:=A8.Uz D;omega) (by show 2≤4;omega)
 unfold DN;split
 ·show D.loose.length≤_;omega
 ·split<;>exact hd
theorem aqJ(D:A8)(L:BD)(l:List T)(hl:rowLen l≤10000000):(Dx D L l).1.loose.length≤D.loose.length+4000000:=by
 unfold Dx;split
 ·show D.loose.length≤_;omega
 ·split
  ·show D.loose.length≤_;omega
  ·rename_i s hs
   have FL:s.length≤rowLen l+68:=by
    have:=aak l;unfold JD at this;rw[hs] at this;exact this
   have hd:=zL (L.acts s) D (fun f hf D=>by
    unfold BD.acts at hf;simp only[Cc,List.not_mem_nil,or_false] at hf;rcases hf with rfl|rfl|rfl|rfl
    ·have:=A8.TY D ((L.from_+1+L.used:Nat):Int) s
     show(D.write ((L.from_+1+L.used:Nat):Int) s).1.loose.length≤_
     omega
    ·have:=A8.Uz D;omega
    ·have:=A8.TY D (L.from_:Int) (Av.mark L.gen (L.used+s.length / 64));rw[Av.O4] at this
     show(D.write (L.from_:Int) (Av.mark L.gen (L.used+s.length / 64))).1.loose.length≤_
     omega
    ·have:=A8.Uz D;omega) (by show 4≤4;omega)
   split
   ·show D.loose.length≤_;omega
   ·split<;>exact hd
theorem axt(D:A8)(F:St)(m:M)(hu:used m≤10000000):(OW D F m).1.loose.length≤D.loose.length+8000000:=by
 have ha:=afI m
 have hd:=zL (Ib F m) D (fun f hf D=>by
  unfold Ib at hf;simp only[Cc,List.not_mem_nil,or_false] at hf;rcases hf with rfl|rfl|rfl|rfl
  ·have:=A8.TY D ((CV F.log F.size (1 -F.AL):Nat):Int) (Qz m)
   show(D.write ((CV F.log F.size (1 -F.AL):Nat):Int) (Qz m)).1.loose.length≤_
   omega
  ·have:=A8.Uz D;omega
  ·have:=A8.TY D ((0:Nat):Int) (Ag.mark (1 -F.AL) ((F.w.gen+1) % 18446744073709551616));rw[Ag.O4] at this
   show(D.write ((0:Nat):Int) (Ag.mark (1 -F.AL) ((F.w.gen+1) % 18446744073709551616))).1.loose.length≤_
   omega
  ·have:=A8.Uz D;omega) (by show 4≤4;omega)
 have hr:=azQ (Bu (Ib F m) D).1 F.w;unfold OW;split
 ·split
  ·show(DN (Bu (Ib F m) D).1 F.w).1.loose.length≤_;omega
  ·show(DN (Bu (Ib F m) D).1 F.w).1.loose.length≤_;omega
 ·show(Bu (Ib F m) D).1.loose.length≤_;omega
theorem zA(D:A8)(F:St)(l:List Am)(h1:rowLen (group l)≤10000000)(h2:used (made F.m l)≤10000000):(JC D F l).1.loose.length≤D.loose.length+8000000:=by
 have ha:=aqJ D F.w (group l) h1;have hl:=axt D F (made F.m l) h2;unfold JC;split
 ·show D.loose.length≤_;omega
 ·split
  ·show D.loose.length≤_;omega
  ·split
   ·show D.loose.length≤_;omega
   ·split
    ·split
     ·show(Dx D F.w (group l)).1.loose.length≤_;omega
     ·show(Dx D F.w (group l)).1.loose.length≤_;omega
    ·exact hl
theorem aa3{a:Option Addr}{cap:Nat}{l:List Am}(h:Fa fz w b y bl n N A)(hN:N < 1000000000)(hL:Eb w a l)(hlen:l.length≤100000)(hw:F8 l≤900000):
  Calls prog 17 #[.pointer (some ⟨y,0,none⟩),.slice a l.length cap] w fun e w'=>∃ c:Int,e=.returned (.int .i64 c)∧∃ C8,aZ fz w' b y C8 n (N+1) A (FC n A l,En n A l) c∧A7 (Gx w bl) w w'∧∀ k,C8 k→bl k∨w.heap.size≤k:=by
 have DY:=h.up;obtain⟨D,fp,m,x,gv,F,h1,h2,h3,h4,h5,h6,h7,h8,h9⟩:=h;have hok:∀ c∈l,c.name.length≤1000000∧c.data.length≤maxLen:=fun c hc=>by
  have:=aoz hc;unfold maxLen;omega
 have J2:=aO DY.2.2.2.2;have FM:=Vj DY.1 l;have FX:F.room=Co n:=by unfold St.room Co;rw[h4.size,h6]
 have hgw:=ahR l;have I9:=Rf A;have I7:D.loose.length=0:=by rw[h4.disk.loose];rfl
 have FL:=zA D F l (by omega) (by rw[h8];omega);have key:Calls prog 17 #[.pointer (some ⟨y,0,none⟩),.slice a l.length cap] w fun e w'=>SB w y b m x gv fp (JC D F l) e w':=by
  by_cases hall:l.all Am.may=true
  ·exact agQ h1 h2 h3 hL hlen hok h4.good (by rw[h8];omega) (by rw[h8];omega) (by rw[h4.size];have:=h4.disk.fine.n2;unfold sz;omega) (by omega) (by omega) (by have:=ahT h4;omega) h4.fault hall
  ·exact agP h1 h2 h3 hL hlen (fun c hc=>⟨Aw (hok c hc).1 (by unfold maxLen;omega),(hok c hc).2⟩) h4.fault (by simpa using hall)
 refine key.mono ?_;rintro e w'⟨m',⟨he,fp',Fp,p1,p2,p3,p4,p5,p6⟩,Y5⟩;refine⟨_,he,fun k=>bl k∨w.heap.size≤k,?_,p4.mono (fun k hk=>fM h1 h2 h9 k hk),fun k hk=>hk⟩;have CP:∀ k,fp' k∨Tc y m' x Fp k→bl k∨w.heap.size≤k:=by
  rintro k (hk|hk|hk|hk)
  ·exact(p5 k hk).imp (fun e=>h9 k (.inl e)) id
  ·exact .inl (h9 k (.inr (.inl hk)))
  ·subst hk;exact Y5.imp (fun e=>h9 _ (.inr (.inr (.inl e)))) id
  ·exact(p6 k hk).imp (fun e=>h9 k (.inr (.inr (.inr e)))) id
 by_cases hall:l.all Am.may=true
 ·by_cases hr:used (made F.m l)≤F.room
  ·have hc:=agb h4 (by omega) hall hr;have Tp:FC n A l=0:=(by unfold FC;rw[Ab (by simp[hall]),Ab (by rw[←h8,←FX];omega)]);have LM:En n A l=made A l:=(by unfold En;rw[Ad ⟨hall,by rw[←h8,←FX];exact hr⟩]);rw[Tp,LM];rcases hc.out with⟨o1,o2,o3,o4,o5⟩|⟨o1,o2,o3,o4,o5,o6⟩
   ·exact .inl ⟨o1,_,fp',m',x,Fp,_,p1,p2,p3,o2,fun e=>o5 (h5 e),hc.n.trans h6,by omega,by rw[←h8];exact o3,CP⟩
   ·refine .inr ⟨?_,o1,rfl,_,fp',m',x,Fp,_,p1,p2,p3,o3,by omega,hc.n.trans h6,⟨DY.2.1,DY.2.2.1,DY.2.2.2.2⟩,o4.trans h8,fun keep=>?_,CP⟩
    ·cases fz with
     |false=>exact absurd (h5 rfl) o2
     |true=>rfl
    ·obtain⟨F',D',q1,q2,q3,q4⟩:=o6 keep;exact⟨F',D',q1,q2,by omega,by rw[←h8];exact q4⟩
  ·have e1:JC D F l=(D,F,4):=by
    unfold JC;rw[Ab (by simp[h4.fault]),Ab (by simp[hall]),Ad (by omega)]
   have Tp:FC n A l=4:=(by unfold FC;rw[Ab (by simp[hall]),Ad (by rw[←h8,←FX];omega)]);have LM:En n A l=A:=(by unfold En;rw[Ab (fun e=>hr (by rw[h8,FX];exact e.2))]);rw[e1] at p1 p2 ⊢;rw[Tp,LM];exact .inl ⟨rfl,D,fp',m',x,Fp,F,p1,p2,p3,h4,h5,h6,by omega,h8,CP⟩
 ·have GK:l.all Am.may=false:=by simpa using hall
  have e1:JC D F l=(D,F,2):=by
   unfold JC;rw[Ab (by simp[h4.fault]),Ad GK]
  have Tp:FC n A l=2:=by unfold FC;rw[Ad GK]
  have LM:En n A l=A:=by unfold En;rw[Ab (fun e=>hall e.1)]
  rw[e1] at p1 p2 ⊢;rw[Tp,LM];exact .inl ⟨rfl,D,fp',m',x,Fp,F,p1,p2,p3,h4,h5,h6,by omega,h8,CP⟩
theorem atB{a:Option Addr}{cap:Nat}{l:List Am}(h:Qi w b y bl n N A)(hN:N < 1000000000)(hL:Eb w a l)(hlen:l.length≤100000)(hw:F8 l≤900000):
  Calls prog 17 #[.pointer (some ⟨y,0,none⟩),.slice a l.length cap] w fun e w'=>e=.returned (.int .i64 (FC n A l))∧∃ C8,Qi w' b y C8 n (N+1) (En n A l)∧A7 (Gx w bl) w w'∧∀ k,C8 k→bl k∨w.heap.size≤k:=
 (aa3 h hN hL hlen hw).mono fun e w' ⟨c,he,C8,g1,g2⟩=>by
  obtain⟨rfl,g3⟩:=g1.calm;exact⟨he,C8,g3,g2⟩
theorem Fa.loosen(h:Qi w b y bl n N A):Fa true w b y bl n N A:=by
 obtain⟨D,fp,m,x,gv,F,h1,h2,h3,h4,h5,h6⟩:=h;exact⟨D,fp,m,x,gv,F,h1,h2,h3,h4,(fun e=>by cases e),h6⟩
theorem ahl{D D':A8}{fp:Nat→Prop}{F:St}(hd:BB w b D fp)(h:bY D F D')(ajG:D'.left= -1)(I7:D.loose.length≤300000000)(hN:F.w.gen≤N):
  Calls prog 25 #[.pointer (some ⟨b,0,none⟩)] w fun e w'=>∃ y C8,e=.returned (.tuple #[.pointer (some ⟨y,0,none⟩),.int .i64 0])∧Qi w' b y C8 D.n N F.m∧A7 fp w w'∧(∀ k,C8 k→fp k∨w.heap.size≤k)∧w.heap.size≤y:=
 (atn hd h.1 I7).mono (by
  rintro e w'⟨y,m,x,gv,fp',rfl,p1,p2,p3,p4,p5,p6⟩;refine⟨y,fun k=>fp k∨w.heap.size≤k,rfl,⟨D',fp',m,x,gv,F,p1,p2,p3,h.2.1,fun _=>ajG,h.2.2,hN,rfl,?_⟩,p4,fun k hk=>hk,p6 y (.inl rfl)⟩;rintro k (hk|hk)
  ·exact p5 k hk
  ·exact .inr (p6 k hk))
theorem atE(n:Nat)(hn:8≤n)(GM:n≤16384){fp:Nat→Prop}(hd:BB w b (A8.new n) fp):
  Calls prog 25 #[.pointer (some ⟨b,0,none⟩)] w fun e w'=>∃ y C8,e=.returned (.tuple #[.pointer (some ⟨y,0,none⟩),.int .i64 0])∧Qi w' b y C8 n 0 []∧A7 fp w w'∧(∀ k,C8 k→fp k∨w.heap.size≤k)∧w.heap.size≤y:=
 ahl (N:=0) hd (Ag.Calm.new hn GM).opens rfl (by show(0:Nat)≤_;omega) (Ae 0)
theorem atC(h:Fa fz w b y bl n N A)(k:T)(hk:k.length≤maxLen):
  Calls prog 16 #[.pointer (some ⟨y,0,none⟩),.string (bs k)] w fun e w'=>e=.returned (.tuple #[.string (bs ((Ag.get A k).getD [])),.bool (Ag.get A k).isSome])∧Fa fz w' b y bl n N A∧Bw w w':=by
 have h0:=h;obtain⟨D,fp,m,x,gv,F,h1,h2,h3,h4,h5,h6,h7,h8,h9⟩:=h;refine(asP h2 k hk).mono ?_;rintro e w'⟨rfl,hb⟩;rw[h8];exact⟨rfl,h0.below hb,hb⟩
theorem atD(h:Fa fz w b y bl n N A):
  Calls prog 28 #[.pointer (some ⟨y,0,none⟩)] w fun e w'=>∃ v,e=.returned v∧w'.ownsRow 0 9 1 v A.length (strCells (A.map (·.1)))∧Fa fz w' b y bl n N A∧Bw w w'∧∀ k,v.ownBlock=some k→w.heap.size≤k:=by
 have h0:=h;have DY:=h.up;have J2:=aO DY.2.2.2.2;have I9:=Rf A;obtain⟨D,fp,m,x,gv,F,h1,h2,h3,h4,h5,h6,h7,h8,h9⟩:=h;refine(ate h2 h4.good (by rw[h8];omega)).mono ?_;rw[h8];rintro e w'⟨v,rfl,p1,p2,p3⟩;exact⟨v,rfl,p1,h0.below p2,p2,p3⟩
theorem zx{W:World}{g:Nat}{c:Am}(h:W.heap[g]?=some (.cells #[.string (bs c.name),.string (bs c.data),.bool c.gone] 57)):Eb W (some ⟨g,0,none⟩) [c]:=fun i hi=>by
 obtain rfl:i=0:=by simpa using hi
 refine⟨⟨g,0,none⟩,rfl,?_⟩;constructor
 ·rw[add_plain,add_plain,BL W g _ _ _ _ h];rfl
 ·rw[add_plain,add_plain,BL W g _ _ _ _ h];rfl
 ·rw[add_plain,add_plain,BL W g _ _ _ _ h];rfl
end
end
section
open Go.RowKit Go.Maps
open Ag
theorem Fa.shrink{w:World}{b y:Nat}{bl:Nat→Prop}{n N:Nat}{A:M}{fz:Bool}(h:Fa fz w b y bl n N A):Fa fz w b y (fun k=>bl k∧k < w.heap.size) n N A:=by
 obtain⟨D,fp,m,x,gv,F,h1,h2,h3,h4,h5,h6,h7,h8,h9⟩:=h;exact⟨D,fp,m,x,gv,F,h1,h2,h3,h4,h5,h6,h7,h8,fun k hk=>⟨h9 k hk,hk.elim (h1.lt k) (h2.lt k)⟩⟩
def VL(B:Nat)(w0 w:World)(b y n N:Nat)(A:M)(X:Nat→Prop):Prop:=Below B w0 w∧B≤w.heap.size∧(∀ k,X k→k < w.heap.size)∧∃ bl,Qi w b y bl n N A∧∀ k,bl k→B≤k∧¬ X k
def Kept(X:Nat→Prop)(w w':World):Prop:=∀ k,X k→w'.heap[k]?=w.heap[k]?
section
variable {B:Nat}{w0 w w':World}{b y n N:Nat}{A:M}{X:Nat→Prop}
theorem VL.step(h:VL B w0 w b y n N A X)(hb:Bw w w'):VL B w0 w' b y n N A X:=by
 obtain⟨h1,h2,hx,bl,h3,h4⟩:=h;exact⟨h1.trans (hb.mono h2),Aw h2 hb.size,fun k hk=>Hw (hx k hk) hb.size,bl,h3.below hb,h4⟩
theorem VL.turn{bl C8:Nat→Prop}{A':M}{N' y':Nat}(h1:Below B w0 w)(h2:B≤w.heap.size)(hx:∀ k,X k→k < w.heap.size)(h4:∀ k,bl k→B≤k∧¬ X k)(g:Qi w' b y' C8 n N' A')(hu:A7 (Gx w bl) w w')(hs:∀ k,C8 k→bl k∨w.heap.size≤k):VL B w0 w' b y' n N' A' X∧Kept X w w':=
 ⟨⟨Cy h1 hu (fun k hk=>(h4 k hk.1).1) h2,Aw h2 hu.size,fun k hk=>Hw (hx k hk) hu.size,C8,g,fun k hk=>(hs k hk).elim (h4 k) (fun e=>⟨Aw h2 e,fun f=>by have:=hx k f;omega⟩)⟩,
  fun k hk=>hu.block k (hx k hk) (fun f=>(h4 k f.1).2 hk)⟩
end
theorem ayr{w:World}(n:Nat)(h1:1≤n)(h2:n≤16384):
  Calls prog 90 #[.int .i64 n] w fun e w'=>∃ b fp,e=.returned (.tuple #[.pointer (some ⟨b,0,none⟩),.int .i64 0])∧BB w' b (A8.new n) fp∧Bw w w'∧∀ k,fp k→w.heap.size≤k:=ays n w h1 h2
def MyF(B:Nat)(w0 w:World)(b y n N:Nat)(A:M):Prop:=Below B w0 w∧B≤w.heap.size∧∃ bl,Qi w b y bl n N A∧∀ k,bl k→B≤k
section
variable {B:Nat}{w0 w w':World}{b y n N:Nat}{A:M}
theorem ayi{fp:Nat→Prop}(h1:Below B w0 w)(h2:B≤w.heap.size)(hn:8≤n)(GM:n≤16384)(hd:BB w b (A8.new n) fp)(hf:∀ k,fp k→B≤k):
  Calls prog 25 #[.pointer (some ⟨b,0,none⟩)] w fun e w'=>∃ y,e=.returned (.tuple #[.pointer (some ⟨y,0,none⟩),.int .i64 0])∧MyF B w0 w' b y n 0 []:=by
 refine(atE n hn GM hd).mono ?_;rintro e w'⟨y,C8,rfl,g1,g2,g3,_⟩;exact⟨y,rfl,Cy h1 g2 hf h2,Aw h2 g2.size,C8,g1,fun k hk=>(g3 k hk).elim (hf k) (fun e=>Aw h2 e)⟩
theorem AU(w:World)(o:Obj):Bw w (w.alloc o):=(Ai _ _).alloc (Ae _) _
end
end
namespace Ar
open Go.RowKit Av
end Ar
section
open Go.RowKit Go.Shelf
def axW:Go.Shelf.Ren:=⟨fun|16=>149|n=>n,fun|24=>61|9=>9|4=>4|n=>n,fun|n=>n⟩
theorem acD:Go.Proofs.Lays2.n16 prog axW:={
 mixed:=by kernel_rfl
 f16:=func149.trans (congrArg some (by kernel_rfl))
 t4:=underlying4
 a4:=Tryz.isAgg4
 z4:=Tryz.sizeOf4
 v4:=Tryz.zeroValue4
 t9:=underlying9
 a9:=Tryz.isAgg9
 z9:=Tryz.sizeOf9
 v9:=Tryz.zeroValue9
 t24:=underlying61
 a24:=Tryz.isAgg61
 z24:=Tryz.sizeOf61
 v24:=Tryz.zeroValue61
 i9:=by kernel_rfl }
def uj:Go.Shelf.Ren:=⟨fun|194=>71|n=>n,fun|31=>61|9=>9|3=>3|4=>4|0=>0|n=>n,fun|n=>n⟩
theorem fG:Go.Proofs.Lays.n194 prog uj:={
 mixed:=by kernel_rfl
 f194:=func71.trans (congrArg some (by kernel_rfl))
 t0:=underlying0
 a0:=Tryz.isAgg0
 z0:=Tryz.sizeOf0
 v0:=Tryz.zeroValue0
 t3:=underlying3
 a3:=Tryz.isAgg3
 z3:=Tryz.sizeOf3
 v3:=Tryz.zeroValue3
 t4:=underlying4
 a4:=Tryz.isAgg4
 z4:=Tryz.sizeOf4
 v4:=Tryz.zeroValue4
 t9:=underlying9
 a9:=Tryz.isAgg9
 z9:=Tryz.sizeOf9
 v9:=Tryz.zeroValue9
 t31:=underlying61
 a31:=Tryz.isAgg61
 z31:=Tryz.sizeOf61
 v31:=Tryz.zeroValue61 }
def ay2:Go.Shelf.Ren:=⟨fun|193=>247|n=>n,fun|31=>61|9=>9|4=>4|3=>3|0=>0|n=>n,fun|n=>n⟩
theorem uz:Go.Proofs.Lays.n193 prog ay2:={
 mixed:=by kernel_rfl
 f193:=func247.trans (congrArg some (by kernel_rfl))
 t0:=underlying0
 a0:=Tryz.isAgg0
 z0:=Tryz.sizeOf0
 v0:=Tryz.zeroValue0
 t3:=underlying3
 a3:=Tryz.isAgg3
 z3:=Tryz.sizeOf3
 v3:=Tryz.zeroValue3
 t4:=underlying4
 a4:=Tryz.isAgg4
 z4:=Tryz.sizeOf4
 v4:=Tryz.zeroValue4
 t9:=underlying9
 a9:=Tryz.isAgg9
 z9:=Tryz.sizeOf9
 v9:=Tryz.zeroValue9
 t31:=underlying61
 a31:=Tryz.isAgg61
 z31:=Tryz.sizeOf61
 v31:=Tryz.zeroValue61 }
end
namespace Ar
open Go.RowKit Go.Maps Go.Sort Go.Shelf Go.Lib
def Bi(l:List (List UInt8)):List (List UInt8):=Lib.compact (l.mergeSort fun x y=>decide (x≤y))
theorem M5(l:List (List UInt8)):strCells l=l.map encStr:=by unfold strCells;rfl
theorem aB8(l:List (List UInt8)):(l.map bs).map Value.string=strCells l:=by unfold strCells;rw[Kq];rfl
abbrev Bq(w:World)(base:Nat)(v:Value)(l:List (List UInt8)):Prop:=w.ownsRow base 9 1 v l.length (strCells l)
theorem Bq.cells{w:World}{base:Nat}{l:List (List UInt8)}{g n cap:Nat}(h:Bq w base (.slice (some ⟨g,0,none⟩) n cap) l):
  n=l.length∧∀ j,j < (l.map bs).length→w.cell? ⟨g,0+j,none⟩=some (.string ((l.map bs).getD j ByteArray.empty)):=by
 rcases h.2 with⟨e0,_⟩|⟨g',cap',cur,e0,hb,hg,hn,hm,hs,ht⟩
 ·cases e0
 ·injection e0 with e1 e2 e3
  injection e1 with e1
  injection e1 with e1
  subst e1;subst e2;subst e3;refine⟨rfl,fun j hj=>?_⟩;rw[BP] at hj;have e1:(cur.toList.take (l.length*1))[j]?=(strCells l)[j]? :=by rw[ht]
  rw[List.getElem?_take,Ad (by omega),Dy,YA l j hj] at e1;simp only[World.cell?,hg,Ha];simp only[Option.isSome_none,Bool.false_eq_true,if_false];rw[e1,Ig,Jr,CJ hj];rfl
theorem Bq.parts{w:World}{base:Nat}{v:Value}{l:List (List UInt8)}(h:Bq w base v l):(v=.slice none 0 0∧l=[])∨∃ g cap,v=.slice (some ⟨g,0,none⟩) l.length cap∧base≤g∧l.length≤cap∧cap≤maxLen∧g < w.heap.size:=by
 rcases h.2 with⟨e0,h0⟩|⟨g,cap,cur,rfl,hb,hg,hn,hm,hs,ht⟩
 ·exact .inl ⟨e0,Ld.1 h0⟩
 ·exact .inr ⟨g,cap,rfl,hb,hn,hm,(Dq.1 hg).1⟩
theorem ary{w:World}{base:Nat}{v:Value}{l:List (List UInt8)}(h:Bq w base v l)(hl:l.length≤1000000):
  Calls prog 149 #[v] w fun e w'=>∃ v',e=.returned v'∧Bq w' w.heap.size v' l∧(v'=.slice none 0 0→l=[])∧Bw w w':=by
 rcases h.parts with⟨rfl,rfl⟩|⟨g,cap,rfl,_⟩
 ·refine(Any.slices_Clone_string_nil acD 0 0 w).mono ?_;rintro e w'⟨rfl,rfl⟩;exact⟨_,rfl,by unfold Bq;rw[M5];exact DZ _ _ _ _,fun _=>rfl,Ai _ _⟩
 ·cases l with
  |nil=>
   refine(Any.slices_Clone_string_zero acD ⟨g,0,none⟩ cap w).mono ?_;rintro e w'⟨v',rfl,ho,hne,hb⟩;exact⟨v',rfl,by unfold Bq;rw[M5];exact ho,fun e=>absurd e hne,hb⟩
  |cons x l=>
   refine(Any.slices_Clone_string acD g 0 (x :: l).length cap ((x :: l).map bs) w (by simp) (by omega) h.cells.2).mono ?_;rintro e w'⟨v',rfl,ho,hne,hb⟩;rw[Gu (by simp),aB8] at ho;exact⟨v',rfl,ho,fun e=>absurd e hne,hb⟩
theorem below_grow{B:Nat}{w0 w:World}(h:Below B w0 w)(hB:B≤w.heap.size)(os:Array Obj):Below B w0 (grow w os):=
 ⟨h.os,h.tape,h.output,by simp[grow];exact Aw h.size (by omega),fun k hk=>by
  rw[←h.block k hk];have:=h.size;simp[grow];exact Array.getElem?_append_left (by omega)⟩
theorem compact_length_le(l:List (List UInt8)):(Lib.compact l).length≤l.length:=by
 unfold Lib.compact Lib.compactUpTo;rw[BP];exact Aw (M8 _ _) (by simp)
theorem Vh(l:List (List UInt8)):(Bi l).length≤l.length:=by
 unfold Bi;exact Aw (compact_length_le _) (by simp)
theorem ar6{l k:List (List UInt8)}(h:l.map bs=k.map bs):l=k:=by
 have e:∀ a b,bs a=bs b→a=b:=fun a b e=>by
  have:=congrArg (fun x:ByteArray=>x.data.toList) e;simpa[bs] using this
 exact(List.map_inj_right (fun {a b} h=>e a b h)).1 h
theorem asC{w:World}{base Uu:Nat}{v u:Value}{l k:List (List UInt8)}(h:Bq w base v l)(h2:Bq w Uu u k)(hl:l.length≤1000000)(hk:k.length≤1000000):
  Calls prog 247 #[v,u] w fun e w'=>e=.returned (.bool (decide (l=k)))∧Bw w w':=by
 obtain⟨q1,c1,rfl⟩:=Bo h;obtain⟨q2,c2,rfl⟩:=Bo h2;by_cases IL:l.length=k.length
 ·rcases h.parts with⟨e1,e2⟩|⟨g,cap,e1,_⟩
  ·subst e2;cases e1;obtain rfl:k=[]:=Ld.1 IL.symm;refine(Any.slices_Equal_string_empty uz none q2 0 0 c2 w (by omega)).mono ?_;rintro e w'⟨rfl,rfl⟩;exact⟨rfl,Ai _ _⟩
  ·cases e1;rcases h2.parts with⟨e1,e2⟩|⟨g2,cap2,e1,_⟩
   ·subst e2;cases e1;obtain rfl:l=[]:=Ld.1 IL;refine(Any.slices_Equal_string_empty uz _ none _ 0 0 w (by omega)).mono ?_;rintro e w'⟨rfl,rfl⟩;exact⟨rfl,Ai _ _⟩
   ·cases e1;refine(Any.slices_Equal_string uz g 0 l.length c1 g2 0 k.length c2 (l.map bs) (k.map bs) w (by simp) (by simp) (by omega) (by omega) h.cells.2 h2.cells.2).mono ?_;rintro e w'⟨rfl,q,rfl⟩;refine⟨?_,FB w q⟩;rw[Gu (by simp),Gu (by simp)];have:(l.map bs=k.map bs)↔l=k:=⟨ar6,fun e=>by rw[e]⟩;simp[this]
 ·refine(Any.slices_Equal_string_lens uz q1 q2 _ c1 _ c2 w IL).mono ?_;rintro e w'⟨rfl,rfl⟩;refine⟨?_,Ai _ _⟩;have:¬ l=k:=fun e=>IL (by rw[e])
  simp[this]
end Ar
section
open Go.RowKit Go.Shelf
end
namespace Ar
open Go.RowKit Av Ag
structure Pb(w:World)(y:Nat)(A:M):Prop where
 gets:∀ W,Bw w W→∀ k:T,k.length≤1000→Calls prog 16 #[.pointer (some ⟨y,0,none⟩),.string (bs k)] W fun e w'=>e=.returned (.tuple #[.string (bs ((Ag.get A k).getD [])),.bool (Ag.get A k).isSome])∧Bw W w'
 small:∀ k:T,((Ag.get A k).getD []).length≤1000000
theorem O6{W:World}{g:Nat}{a b c:Value}{t:TypeId}(h:W.heap[g]?=some (.cells #[a,b,c] t)):
  W.cell? ⟨g,0,none⟩=some a∧W.cell? ⟨g,1,none⟩=some b∧W.cell? ⟨g,2,none⟩=some c∧W.frozen? ⟨g,0,none⟩=false∧W.frozen? ⟨g,1,none⟩=false∧W.frozen? ⟨g,2,none⟩=false:=
 ⟨by rw[BL W g _ _ _ _ h];rfl,by rw[BL W g _ _ _ _ h];rfl,by rw[BL W g _ _ _ _ h];rfl,Dt W g 0 _ _ h,Dt W g 1 _ _ h,Dt W g 2 _ _ h⟩
end Ar
namespace BH
open Go.RowKit
def IA(x:Int)(n:Nat):Int:=bits .or .u32 (x / 2 ^ n) (x*2 ^ (32 -n) % 4294967296)
@[irreducible] def Bp (l:List Int):Array Value:=(l.map fun x=>Value.int .u32 x).toArray
@[simp] theorem TW (l:List Int):(Bp l).size=l.length:=by unfold Bp;simp
theorem Sq(l:List Int)(i:Nat)(h:i < l.length):(Bp l)[i]?=some (.int .u32 l[i]):=by
 unfold Bp;rw[List.getElem?_toArray,Jr,CJ h];rfl
theorem vV(l:List Int)(i:Nat)(x:Int):(Bp l).setIfInBounds i (.int .u32 x)=Bp (l.set i x):=by
 unfold Bp;rw[List.map_set,List.setIfInBounds_toArray]
theorem gL(l:List Int):(Bp l).all (·.oneCell')=true:=by
 unfold Bp;rw[Array.all_eq_true];intro i hi;simp at hi ⊢;rfl
def zeros(n:Nat):List Int:=List.replicate n 0
def be(b:List UInt8)(t:Nat):Int:=
 bits .or .u32 (bits .or .u32 (bits .or .u32 ((b[4*t]?.getD 0).toNat % 4294967296*16777216 % 4294967296) ((b[4*t+1]?.getD 0).toNat % 4294967296*65536 % 4294967296)) ((b[4*t+2]?.getD 0).toNat % 4294967296*256 % 4294967296)) ((b[4*t+3]?.getD 0).toNat % 4294967296)
def sig(x:Int)(i j k:Nat):Int:=bits .xor .u32 (bits .xor .u32 (IA x i) (IA x j)) (x / 2 ^ k)
def aG(l:List Int)(t:Nat):Int:=
 (((l.getD (t -16) 0+sig (l.getD (t -15) 0) 7 18 3) % 4294967296+l.getD (t -7) 0) % 4294967296+sig (l.getD (t -2) 0) 17 19 10) % 4294967296
def CY(b:List UInt8):Nat→List Int
 |0=>(List.range 16).map (be b)
 |k+1=>CY b k++[aG (CY b k) (16+k)]
theorem aX(b:List UInt8):∀ k,(CY b k).length=16+k
 |0=>by simp[CY]
 |k+1=>by simp[CY,aX b k];omega
end BH
section
open Go.RowKit
open BH
theorem vk(x:Int)(n:Nat)(h0:0 < n)(hn:n < 32)(w:World):
  Calls prog 259 #[.int .u32 x,.int .i64 n] w fun e w'=>e=.returned (.int .u32 (IA x n))∧Bw w w':=by
 have h1:(n:Int) < 32:=by omega
 have h2:(0:Int) < n:=by omega
 go_in
 go_wp2
 go_quiet (fail)
 go_wp2;go_ret;exact⟨rfl,FB _ _⟩
theorem ae2:(#[.int .u32 0,.int .u32 0,.int .u32 0,.int .u32 0,.int .u32 0,.int .u32 0,.int .u32 0,.int .u32 0,.int .u32 0,.int .u32 0,.int .u32 0,.int .u32 0,.int .u32 0,.int .u32 0,.int .u32 0,.int .u32 0,.int .u32 0,.int .u32 0,.int .u32 0,.int .u32 0,.int .u32 0,.int .u32 0,.int .u32 0,.int .u32 0,.int .u32 0,.int .u32 0,.int .u32 0,.int .u32 0,.int .u32 0,.int .u32 0,.int .u32 0,.int .u32 0,.int .u32 0,.int .u32 0,.int .u32 0,.int .u32 0,.int .u32 0,.int .u32 0,.int .u32 0,.int .u32 0,.int .u32 0,.int .u32 0,.int .u32 0,.int .u32 0,.int .u32 0,.int .u32 0,.int .u32 0,.int .u32 0,.int .u32 0,.int .u32 0,.int .u32 0,.int .u32 0,.int .u32 0,.int .u32 0,.int .u32 0,.int .u32 0,.int .u32 0,.int .u32 0,.int .u32 0,.int .u32 0,.int .u32 0,.int .u32 0,.int .u32 0,.int .u32 0]:Array Value)=Bp (zeros 64):=by
 unfold Bp zeros;rfl
theorem aCn:(prog.info? 325).map (·.size)=some 64:=by kernel_rfl
theorem nC(l:List Int)(h:l.length=64):(prog.info? 325).map (·.size)=some (Bp l).size:=by rw[TW,h];exact aCn
def Tf(b:List UInt8)(k:Nat):List Int:=(List.range k).map (be b)++zeros (64 -k)
theorem dz(b:List UInt8)(k:Nat)(h:k≤64):(Tf b k).length=64:=by unfold Tf zeros;simp;omega
theorem acw(l:List Int)(z:Nat)(x:Int):(l++zeros (z+1)).set l.length x=(l++[x])++zeros z:=by
 unfold zeros;rw[List.set_append_right _ _ (Ae _),Nat.sub_self,List.replicate_succ,List.set_cons_zero,Dz];rfl
theorem ah4(b:List UInt8)(k:Nat)(h:k < 64):(Tf b k).set k (be b k)=Tf b (k+1):=by
 unfold Tf;have e:=acw ((List.range k).map (be b)) (64 -(k+1)) (be b k);rw[BP,List.length_range,show 64 -(k+1)+1=64 -k by omega] at e;rw[e,List.range_succ,CK];rfl
theorem Yx(b:List UInt8)(j:Nat)(hj:j < b.length)(i:Int)(hi:i=(j:Int))(W:World):(Instr.index 9 (.string (bs b)) (.int .i64 i)).run prog W=.ok (.int .u8 ((b.getD j 0).toNat:Int)) W:=by
 subst hi;rw[run_index_string (P:=prog) (w:=W) 9 (bs b) .i64 _ underlying9,dif_pos ⟨by omega,by rw[zh];omega⟩];simp[Ig,hj]
theorem aCH(b:List UInt8)(hb:b.length=64)(w:World):
  Calls prog 257 #[.string (bs b)] w fun e w'=>e=.returned (.agg (Bp (CY b 48)))∧Bw w w':=by
 go_in
 go_wp2_with fail;rw[ae2]
 go_loopw [7] (fun i wr=>∃ k:Nat,k≤16∧i=.int .i64 k∧Bw w wr∧wr.heap[w.heap.size]?=some (.cells (Bp (Tf b k)) 325)) (fun i _=>16 -(intOf i).toNat)
 case atStart=>exact⟨0,by omega,rfl,(Ai _ _).alloc (Ae _) _,AQ _ _⟩
 case round=>
  obtain⟨k,hk,rfl,Dk,Af⟩:=hrel;have HB:=Hi Dk;have HR:=Hi Af;by_cases hlt:k < 16
  ·have Gb:wr.cell? ⟨w.heap.size,k,none⟩=some (.int .u32 ((Tf b k)[k]'(by rw[dz _ _ (by omega)];omega))):=by
    rw[BL _ _ _ _ _ _ Af,Sq _ _ (by rw[dz _ _ (by omega)];omega)]
   have OG:=Dt _ _ k _ _ Af;generalize (Tf b k)[k]'(by rw[dz _ _ (by omega)];omega)=x0 at Gb;have i1:=Yx b (4*k) (by omega) (4*(k:Int)) (by omega);have i2:=Yx b (4*k+1) (by omega) (4*(k:Int)+1) (by omega);have i3:=Yx b (4*k+2) (by omega) (4*(k:Int)+2) (by omega);have i4:=Yx b (4*k+3) (by omega) (4*(k:Int)+3) (by omega);clear Dk Af;go_wp2;go_region;go_wp2;go_roundw
   case rel=>exact⟨k+1,by omega,by go_num,((HB.setCell (p:=⟨w.heap.size,k,none⟩) (Ae _) _).drew),by
    have h:=Cu wr w.heap.size k _ _ (.int .u32 (be b k)) HR;rw[vV,ah4 b k (by omega)] at h;exact h⟩
   case measure=>simp[intOf];omega
  ·obtain rfl:k=16:=(by omega);clear Dk Af;go_wp2
   go_loopw [4] (fun i wr=>∃ k:Nat,k≤48∧i=.int .i64 ((16+k:Nat):Int)∧Bw w wr∧wr.heap[w.heap.size]?=some (.cells (Bp (CY b k++zeros (48 -k))) 325)) (fun i _=>64 -(intOf i).toNat)
   case atStart=>exact⟨0,by omega,rfl,HB,HR⟩
   case round=>
    clear HB HR;obtain⟨k,hk,rfl,Dk,Af⟩:=hrel;have HB:=Hi Dk;have HR:=Hi Af;clear Dk Af;by_cases hlt:k < 48
    ·have hlen:=aX b k
     have KP:=Hi (fun(V:World) (h:V.heap[w.heap.size]?=some (.cells (Bp (CY b k++zeros (48 -k))) 325))=>(show(∀ j,j < 16+k→V.cell? ⟨w.heap.size,j,none⟩=some (.int .u32 ((CY b k).getD j 0)))∧(∃ v0,V.cell? ⟨w.heap.size,16+k,none⟩=some v0)∧V.frozen? ⟨w.heap.size,16+k,none⟩=false from by
      have hl:(CY b k++zeros (48 -k)).length=64:=(by rw[AA,hlen];unfold zeros;simp;omega);refine⟨fun j hj=>?_,⟨_,(BL _ _ _ _ _ _ h).trans (Sq _ _ (by omega))⟩,Dt _ _ _ _ _ h⟩;rw[BL _ _ _ _ _ _ h,Sq _ _ (by omega),Sw (by omega),Ig,CJ (by omega)];rfl))
     have Bh:=Hi (show(CY b k++zeros (48 -k)).set (16+k) (aG (CY b k) (16+k))=CY b (k+1)++zeros (48 -(k+1)) from by
      have e:=acw (CY b k) (48 -(k+1)) (aG (CY b k) (16+k));rw[hlen,show 48 -(k+1)+1=48 -k by omega] at e;exact e)
     unfold aG at Bh;obtain⟨t,ht⟩:=ex (16+k);obtain⟨Jp,VX⟩:=ex (t -16);obtain⟨QW,jE⟩:=ex (t -15);obtain⟨j7,h7⟩:=ex (t -7);obtain⟨j2,h2⟩:=ex (t -2);rw[ht] at KP Bh ⊢;rw[VX,jE,h7,h2] at Bh;have e16:(t:Int) -16=(Jp:Int):=(by omega);have e15:(t:Int) -15=(QW:Int):=(by omega);have e7:(t:Int) -7=(j7:Int):=(by omega);have e2:(t:Int) -2=(j2:Int):=(by omega);have b0:(t:Int) < 64:=(by omega);have b16:(Jp:Int) < 64:=(by omega);have b15:(QW:Int) < 64:=(by omega);have b7:(j7:Int) < 64:=(by omega);have b2:(j2:Int) < 64:=(by omega);have NA:=Hi (show Jp < t∧QW < t∧j7 < t∧j2 < t∧t+1=16+(k+1)∧k < 48 from by omega);obtain⟨hc,⟨v0,hcz⟩,OG⟩:=KP _ HR.out;have c15:=hc _ NA.2.1;have c2:=hc _ NA.2.2.2.1;clear hc hlen ht VX jE h7 h2 hlt hk;obtain⟨WR,fw⟩:=ex ((CY b k).getD Jp 0);obtain⟨Vl,lH⟩:=ex ((CY b k).getD QW 0);obtain⟨x7,V8⟩:=ex ((CY b k).getD j7 0);obtain⟨x2,Ec⟩:=ex ((CY b k).getD j2 0);rw[lH] at c15 Bh;rw[Ec] at c2 Bh;rw[fw,V8] at Bh;have HX:=Hi (Cw fw V8);clear fw lH V8 Ec;go_wp2
     go_quiet (fail)
     have X9:=Hi (fun(V:World) (hb:Bw wr V)=>(hb.block w.heap.size (Ao HR)).trans HR);have MP:=Hi (fun(V:World) (hb:Bw wr V)=>(show V.cell? ⟨w.heap.size,Jp,none⟩=some (.int .u32 WR)∧V.cell? ⟨w.heap.size,j7,none⟩=some (.int .u32 x7) from⟨by rw[(KP V (X9 V hb)).1 Jp NA.1,HX.1],by rw[(KP V (X9 V hb)).1 j7 NA.2.2.1,HX.2]⟩))
     have JW:=Hi (fun(V:World) (v:Value) (hb:Bw wr V)=>(show(V.setCell ⟨w.heap.size,t,none⟩ v).cell? ⟨w.heap.size,Jp,none⟩=some (.int .u32 WR)∧(V.setCell ⟨w.heap.size,t,none⟩ v).cell? ⟨w.heap.size,j7,none⟩=some (.int .u32 x7) from by
      have h1:=NA.out;have h2:=MP V hb;rw[World.cell?_setCell_other (w:=V) (a:=⟨w.heap.size,t,none⟩) (b:=⟨w.heap.size,Jp,none⟩) (v:=v) (by intro e;injection e with _ e2;omega),World.cell?_setCell_other (w:=V) (a:=⟨w.heap.size,t,none⟩) (b:=⟨w.heap.size,j7,none⟩) (v:=v) (by intro e;injection e with _ e2;omega)];exact h2))
     have AR:=Hi (show Bw wr (wr.drewN nq) from FB _ _);have HB1:=Hi (AR.trans ((Ai _ (wr.drewN nq)).drew));clear hcz OG c15 c2;go_wp2_with fail;have p16:(0:Int)≤(Jp:Int):=(by omega);have p7:(0:Int)≤(j7:Int):=(by omega);have OU:∀ W,(Instr.indexAt 325 (.pointer (some ⟨w.heap.size,0,none⟩)) (.int .i64 (Jp:Int))).run prog W=.ok (.pointer (some ⟨w.heap.size,Jp,none⟩)) W:=fun W=>by go_simp
     have hxb:∀ W,(Instr.indexAt 325 (.pointer (some ⟨w.heap.size,0,none⟩)) (.int .i64 ((t:Int) -16))).run prog W=.ok (.pointer (some ⟨w.heap.size,Jp,none⟩)) W:=fun W=>by go_simp
     have hya:∀ W,(Instr.indexAt 325 (.pointer (some ⟨w.heap.size,0,none⟩)) (.int .i64 (j7:Int))).run prog W=.ok (.pointer (some ⟨w.heap.size,j7,none⟩)) W:=fun W=>by go_simp
     have hyb:∀ W,(Instr.indexAt 325 (.pointer (some ⟨w.heap.size,0,none⟩)) (.int .i64 ((t:Int) -7))).run prog W=.ok (.pointer (some ⟨w.heap.size,j7,none⟩)) W:=fun W=>by go_simp
     have aEL:IntKind.i64.wrap (Jp:Int)=(Jp:Int):=(by rw[IntKind.wrap];simp[IntKind.bits,IntKind.signed];omega);have hw7:IntKind.i64.wrap (j7:Int)=(j7:Int):=by rw[IntKind.wrap];simp[IntKind.bits,IntKind.signed];omega
     go_region_held3 (fun V=>V.cell? ⟨w.heap.size,Jp,none⟩=some (.int .u32 WR)∧V.cell? ⟨w.heap.size,j7,none⟩=some (.int .u32 x7))
      (first|exact JW _ _ U5|exact MP _ U5|exact MP _ EY|exact MP _ AP|exact MP _ Aq|exact MP _ HB1|exact MP _ AR)
      (first
       |(go_at_call 259;refine(vk x2 19 (by decide) (by decide) wD).mono ?_;rintro e wE ⟨rfl,hb⟩;have U5:=bH EY hb;clear hb;obtain⟨_,⟨vz,hcz⟩,OG⟩:=KP _ (X9 _ U5))
       |(go_at_call 259;refine(vk x2 17 (by decide) (by decide) wC).mono ?_;rintro e wD ⟨rfl,hb⟩;have EY:=bH AP hb;clear hb)
       |(go_at_call 259;refine(vk Vl 18 (by decide) (by decide) wA).mono ?_;rintro e wC ⟨rfl,hb⟩;have AP:=bH Aq hb;clear hb)
       |(go_at_call 259;refine(vk Vl 7 (by decide) (by decide) _).mono ?_;rintro e wA ⟨rfl,hb⟩;have Aq:=bH HB1 hb;clear hb))
     go_wp2_with fail;refine⟨?_,?measure⟩
     ·repeat apply Exists.intro
      refine⟨?rel,rfl⟩
      case rel=>exact⟨k+1,by have:=NA.out;omega,by have:=NA.2.2.2.2.1;go_num,((bT HB U5).setCell (p:=⟨w.heap.size,t,none⟩) (Ae _) _),by
       have h:=Cu wE w.heap.size t _ _ (.int .u32 ((((WR+sig Vl 7 18 3) % 4294967296+x7) % 4294967296+sig x2 17 19 10) % 4294967296)) (X9 _ U5);rw[vV,Bh.out] at h;exact h⟩
     show 64 -((t:Int)+1).toNat < 64 -(t:Int).toNat
     omega
    ·obtain rfl:k=48:=(by omega);have BQ:=nC (CY b 48) (aX b 48);have DX:=Hi BQ
     have BX:=Hi (show wr.heap[w.heap.size]?=some (.cells (Bp (CY b 48)) 325) from by
      have h:=HR.out;rw[show 48 -48=0 from rfl,show zeros 0=[] from rfl,Ea] at h;exact h)
     have om:=Hi (gL (CY b 48));clear BQ HR;obtain⟨l,hl⟩:=ex (CY b 48);rw[hl] at DX BX om;have HL:=Hi hl;clear hl;have hzz:∃ z,w.heap.size=z:=⟨_,rfl⟩;obtain⟨z,hz⟩:=hzz;rw[hz] at BX ⊢;clear hz;go_wp2_with (first|(refine wpList_load_row rfl 325 _ rfl z rfl 325 (Bp l) (0,0) _ BX underlying325 rfl DX ?_)|(refine wpList_store_row rfl 325 _ _ rfl z (Bp l) rfl rfl 325 (Bp l) BX DX rfl om ?_;rw[setRow_self _ _ _ _ _ BX.out]));exact EU (v:=.agg (Bp l)) (results_cell_row rfl _ _ z 325 _ (0,0) _ rfl BX underlying325 rfl DX) rfl ⟨by rw[HL.out],HB⟩
end
section
def cntF(l:Array Bool):Nat:=l.toList.count false
theorem agf:∀ (l:List Bool) (i:Nat),l.getD i true=false→(l.set i true).count false+1=l.count false
 |[],i,h=>by simp at h
 |b :: l,0,h=>by
  have hb:b=false:=by simpa using h
  subst hb;simp
 |b :: l,i+1,h=>by
  have:=agf l i (by simpa using h);rw[List.set_cons_succ,List.count_cons,List.count_cons];omega
theorem aga{l:Array Bool}{i:Nat}(h:l.getD i true=false):cntF (l.setIfInBounds i true)+1=cntF l:=by
 unfold cntF;rw[Array.toList_setIfInBounds];refine agf _ _ ?_;rw[Ig,Dy];simpa using h
section
variable {P:Program}{ops:Array Oper}{Q:Exit→Act→World→Prop}{md:Region.Mode}{S:World→Prop}
theorem aoE{Inv:Array Bool→Act→World→Prop}{E:Array Bool}{m:Nat}(hend:∀ a w,Inv E a w→wpAnyH P md ops Q S m E a w)(hm:cntF E=m)
  (hstep:∀ l a w,Inv l a w→l≠E→Region.ready md ops l≠[]∧∀ i∈Region.ready md ops l,wpOp P ops Q i (fun a' w'=>S w'∧Inv (l.setIfInBounds i true) a' w') a w):
  ∀ (n:Nat) (l:Array Bool) (a:Act) (w:World),cntF l=n→Inv l a w→wpAnyH P md ops Q S n l a w
 |n,l,a,w=>fun hn hi=>by
  by_cases e:l=E
  ·subst e;rw[←hn,hm];exact hend a w hi
  ·obtain⟨h1,h2⟩:=hstep l a w hi e;obtain⟨j,hj⟩:=List.exists_mem_of_ne_nil _ h1;have hc:=aga (mem_ready.1 hj).1;cases n with
   |zero=>omega
   |succ n=>
    refine⟨fun h=>absurd h h1,fun i JG=>wpOp_mono (fun a' w' h'=>⟨h'.1,?_⟩) (h2 i JG)⟩;exact aoE hend hm hstep n _ a' w' (by have:=aga (mem_ready.1 JG).1;omega) h'.2
end
section
variable {P:Program}{ops:Array Oper}{Q:Exit→Act→World→Prop}{md:Region.Mode}{S S2:World→Prop}
theorem wJ{i:Nat}{o:Oper}{fuel:Nat}{listed:Array Bool}{a:Act}{w:World}(hr:Region.ready md ops listed=[i])(ho:ops[i]?=some o)
  (h:∀ K':Act→World→Prop,Shut (∀ a w,S w→wpAnyH P md ops Q S fuel (listed.setIfInBounds i true) a w→K' a w)→if Region.wanted o (yielded ops a.tmps)=true then Oper.wp P o a w K' Q else K' (a.put o.dst undef) w):
  wpAnyH P md ops Q S (fuel+1) listed a w:=
 ⟨fun h0=>(by rw[hr] at h0;cases h0),fun j hj=>by
  rw[hr,FJ] at hj;subst hj;exact wpOp_step ho (fun K' hK=>h K' (fun a w hS hW=>hK a w ⟨hS,hW⟩))⟩
theorem tkH(i:Nat)(oi:Oper){v:Value}{fuel:Nat}{listed:Array Bool}{a:Act}{w:World}(hS:S w)(h:wpAnyH P md ops Q S fuel (listed.setIfInBounds i true) (a.put oi.dst v) w)
  (hi:ops[i]?=some oi:=by rfl)(hs:Region.noSelect ops=true:=by kernel_rfl)(hf:Region.free md ops listed i=true:=by kernel_rfl)(hr:(Region.ready md ops listed).contains i=true:=by kernel_rfl)
  (hQ:∀ c a w,Q (.panic c) (a.put oi.dst v) w→Q (.panic c) a w:=by exact fun _ _ _ h=>h)(hw:Region.wanted oi (yielded ops a.tmps)=true:=by rfl)
  (hy:∀ w,S w→(execOp a.eval oi).run P w=.ok (.value v) w:=by intro V hV;(try dsimp only at hV);go_simp;all_goals with_reducible rfl):wpAnyH P md ops Q S (fuel+1) listed a w:=
 wpAnyH_take hi hs hf hr hQ (Or.inl ⟨hw,hy⟩) hS h
end
end
namespace BH
open Go.RowKit
def Gd:List Int:=[1116352408,1899447441,3049323471,3921009573,961987163,1508970993,2453635748,2870763221,3624381080,310598401,607225278,1426881987,1925078388,2162078206,2614888103,3248222580,3835390401,4022224774,264347078,604807628,770255983,1249150122,1555081692,1996064986,2554220882,2821834349,2952996808,3210313671,3336571891,3584528711,113926993,338241895,666307205,773529912,1294757372,1396182291,1695183700,1986661051,2177026350,2456956037,2730485921,2820302411,3259730800,3345764771,3516065817,3600352804,4094571909,275423344,430227734,506948616,659060556,883997877,958139571,1322822218,1537002063,1747873779,1955562222,2024104815,2227730452,2361852424,2428436474,2756734187,3204031479,3329325298]
@[irreducible] def GG (h:List Int) (rest:List UInt8) (n:Nat):Array Value:=((h.map fun x=>Value.int .u32 x)++[Value.string (bs rest),Value.int .u64 (n:Int)]).toArray
theorem auT{h:List Int}{rest:List UInt8}{n:Nat}(hl:h.length=8)(i:Nat)(hi:i < 8):(GG h rest n)[i]?=some (.int .u32 (h.getD i 0)):=by
 unfold GG;rw[List.getElem?_toArray,List.getElem?_append_left (by rw[BP];omega),Jr,CJ (by omega),Ig,CJ (by omega)];rfl
theorem UH{h:List Int}{rest:List UInt8}{n:Nat}(hl:h.length=8):(GG h rest n)[8]?=some (.string (bs rest))∧(GG h rest n)[9]?=some (.int .u64 (n:Int)):=by
 unfold GG;constructor<;>(rw[List.getElem?_toArray,List.getElem?_append_right (by rw[BP];omega),BP,hl];rfl)
theorem auV{h:List Int}{rest:List UInt8}{n:Nat}(hl:h.length=8)(i:Nat)(hi:i < 8)(x:Int):(GG h rest n).setIfInBounds i (.int .u32 x)=GG (h.set i x) rest n:=by
 unfold GG;rw[List.setIfInBounds_toArray,List.set_append_left _ _ (by rw[BP];omega),List.map_set]
theorem aaO{h:List Int}{rest:List UInt8}{n:Nat}(hl:h.length=8)(r:List UInt8):(GG h rest n).setIfInBounds 8 (.string (bs r))=GG h r n:=by
 unfold GG;rw[List.setIfInBounds_toArray,List.set_append_right _ _ (by rw[BP];omega),BP,hl];rfl
theorem auW{h:List Int}{rest:List UInt8}{n:Nat}(hl:h.length=8)(m:Nat):(GG h rest n).setIfInBounds 9 (.int .u64 (m:Int))=GG h rest m:=by
 unfold GG;rw[List.setIfInBounds_toArray,List.set_append_right _ _ (by rw[BP];omega),BP,hl];rfl
end BH
section
open Go.RowKit
open BH
theorem akY:(#[.int .u32 1116352408,.int .u32 1899447441,.int .u32 3049323471,.int .u32 3921009573,.int .u32 961987163,.int .u32 1508970993,.int .u32 2453635748,.int .u32 2870763221,.int .u32 3624381080,.int .u32 310598401,.int .u32 607225278,.int .u32 1426881987,.int .u32 1925078388,.int .u32 2162078206,.int .u32 2614888103,.int .u32 3248222580,.int .u32 3835390401,.int .u32 4022224774,.int .u32 264347078,.int .u32 604807628,.int .u32 770255983,.int .u32 1249150122,.int .u32 1555081692,.int .u32 1996064986,.int .u32 2554220882,.int .u32 2821834349,.int .u32 2952996808,.int .u32 3210313671,.int .u32 3336571891,.int .u32 3584528711,.int .u32 113926993,.int .u32 338241895,.int .u32 666307205,.int .u32 773529912,.int .u32 1294757372,.int .u32 1396182291,.int .u32 1695183700,.int .u32 1986661051,.int .u32 2177026350,.int .u32 2456956037,.int .u32 2730485921,.int .u32 2820302411,.int .u32 3259730800,.int .u32 3345764771,.int .u32 3516065817,.int .u32 3600352804,.int .u32 4094571909,.int .u32 275423344,.int .u32 430227734,.int .u32 506948616,.int .u32 659060556,.int .u32 883997877,.int .u32 958139571,.int .u32 1322822218,.int .u32 1537002063,.int .u32 1747873779,.int .u32 1955562222,.int .u32 2024104815,.int .u32 2227730452,.int .u32 2361852424,.int .u32 2428436474,.int .u32 2756734187,.int .u32 3204031479,.int .u32 3329325298]:Array Value)=Bp Gd:=by
 unfold Bp Gd;rfl
theorem aAI(w:World):
  Calls prog 258 #[] w fun e w'=>e=.returned (.agg (Bp Gd))∧Bw w w':=by
 go_in
 have eQ:=gL Gd;have hold:(#[.int .u32 0,.int .u32 0,.int .u32 0,.int .u32 0,.int .u32 0,.int .u32 0,.int .u32 0,.int .u32 0,.int .u32 0,.int .u32 0,.int .u32 0,.int .u32 0,.int .u32 0,.int .u32 0,.int .u32 0,.int .u32 0,.int .u32 0,.int .u32 0,.int .u32 0,.int .u32 0,.int .u32 0,.int .u32 0,.int .u32 0,.int .u32 0,.int .u32 0,.int .u32 0,.int .u32 0,.int .u32 0,.int .u32 0,.int .u32 0,.int .u32 0,.int .u32 0,.int .u32 0,.int .u32 0,.int .u32 0,.int .u32 0,.int .u32 0,.int .u32 0,.int .u32 0,.int .u32 0,.int .u32 0,.int .u32 0,.int .u32 0,.int .u32 0,.int .u32 0,.int .u32 0,.int .u32 0,.int .u32 0,.int .u32 0,.int .u32 0,.int .u32 0,.int .u32 0,.int .u32 0,.int .u32 0,.int .u32 0,.int .u32 0,.int .u32 0,.int .u32 0,.int .u32 0,.int .u32 0,.int .u32 0,.int .u32 0,.int .u32 0,.int .u32 0]:Array Value).size=(Bp Gd).size:=by rw[TW];rfl
 have HS:=Hi (nC Gd rfl);have HC:=Hi akY;go_wp2_with (first|(refine wpList_store_row rfl 325 _ _ rfl w.heap.size (Bp Gd) rfl (congrArg Value.agg HC.out) 325 _ (AQ w _) HS hold eQ ?_;rw[World.setRow_alloc_new]));exact EU (v:=.agg (Bp Gd)) (results_cell_row rfl _ _ w.heap.size 325 _ (0,0) _ rfl (AQ w _) underlying325 rfl (nC Gd rfl)) rfl ⟨rfl,(Ai _ _).alloc (Ae _) _⟩
