/- FilAlive ManA -/
import Derived.Test.YtmbbhdebddbhoaaGreatQ17
import Derived.Shelf.SlGeneric
import Derived.Shelf.Slices.CompactS
import Derived.Shelf.Slices.Clone
import Derived.Shelf.Slices.Equal
import Derived.Ground.NamesProg
import Derived.Ground.Names2Prog
import Derived.Lib.OwnBridge
import Derived.Shelf.Slices.Empties2
import Derived.Shelf.Strconv.Itoa3
import Derived.Laws.ResultCell
set_option maxRecDepth 100000
set_option linter.all false
namespace Go.Proofs.YtmbbhdebddbhoaaGreat
open Tryz
namespace Fil
theorem ajh(k:T)(F:M):((del k F).map cost).sum≤(F.map cost).sum:=by
 unfold del
 induction F with
 |nil=>simp
 |cons p F ih=>
  rw[List.filter_cons];split
  ·simp only[Bg,Cx];omega
  ·simp only[Bg,Cx];omega
theorem aji{F:M}(hu:Up F)(c:Af):used (Af.on F c)≤used F+(8+c.name.length+c.data.length):=by
 unfold Af.on used;have hd:=ajh c.name F;split
 ·omega
 ·have hp:=((Sc (v:=c.data) hu c.name).map cost).sum_nat;rw[hp,Bg,Cx];have:cost (c.name,c.data)=8+c.name.length+c.data.length:=rfl;omega
def Eb(l:List Af):Nat:=(l.map fun c=>8+c.name.length+c.data.length).sum
theorem yK{l:List Af}{c:Af}(h:c∈l):8+c.name.length+c.data.length≤Eb l:=by
 unfold Eb
 induction l with
 |nil=>simp at h
 |cons x l ih=>
  rw[Bg,Cx];rcases AZ.1 h with rfl|h
  ·omega
  ·have:=ih h;omega
theorem PG{F:M}(hu:Up F)(l:List Af):used (made F l)≤used F+Eb l:=by
 induction l generalizing F with
 |nil=>exact Nat.le_add_right _ _
 |cons c l ih=>
  have h1:=ih (hu.on c);have h2:=aji hu c
  show used (made (Af.on F c) l)≤_
  unfold Eb at h1 ⊢;rw[Bg,Cx];omega
theorem yL(l:List Af):rowLen (group l)≤2+Eb l:=by
 unfold rowLen Eb group
 induction l with
 |nil=>simp
 |cons c l ih=>
  simp only[List.flatMap_cons,C8,Ht,Bg,Cx,List.map_nil,List.sum_nil,AX] at ih ⊢;omega
def Br(n:Nat):Nat:=sz n*64 -4
def EL(n:Nat)(A:M)(l:List Af):Int:=if l.all Af.may=false then 2 else if Br n < used (made A l) then 4 else 0
def DN(n:Nat)(A:M)(l:List Af):M:=if l.all Af.may=true∧used (made A l)≤Br n then made A l else A
end Fil
section
open Go.RowKit Go.Maps
open Fil
def Eo(fz:Bool)(w:World)(b y:Nat)(bl:Nat→Prop)(n N:Nat)(A:M):Prop:=
 ∃ D fp m x gv F,AU w b D fp∧Ci w y b m x gv F∧¬ fp m∧Fil.Calm D F∧(fz=false→D.left= -1)∧D.n=n∧F.w.gen≤N∧F.m=A∧(∀ k,fp k∨Pq y m x gv k→bl k)
abbrev PH:=Eo false
def ae:List TypeId:=[117,195,113,207,27]
def FB(w:World)(bl:Nat→Prop)(k:Nat):Prop:=bl k∧∀ t,Ap w k t→t∈ae
theorem FB.not{w:World}{bl:Nat→Prop}{k:Nat}{t:TypeId}(h:FB w bl k)(hb:Ap w k t)(ht:t∉ae):False:=ht (h.2 t hb)
section
variable {w w':World}{b y:Nat}{bl:Nat→Prop}{n N:Nat}{A:M}{fz:Bool}
theorem Eo.upd{P:Nat→Prop}(h:Eo fz w b y bl n N A)(hu:A7 P w w')(hs:∀ k,Ap w k 9→¬ P k)(hP:∀ k,bl k→¬ P k):Eo fz w' b y bl n N A:=by
 obtain⟨D,fp,m,x,gv,F,h1,h2,h3,h4,h5,h6,h7,h8,h9⟩:=h;exact⟨D,fp,m,x,gv,F,h1.upd hu (fun k hk=>hP k (h9 k (.inl hk))),h2.upd hu hs (fun k hk=>hP k (h9 k (.inr hk))),h3,h4,h5,h6,h7,h8,h9⟩
theorem Eo.below(h:Eo fz w b y bl n N A)(hb:Bw w w'):Eo fz w' b y bl n N A:=h.upd (ub hb) (fun _ _ f=>f) (fun _ _ f=>f)
theorem Eo.more{N':Nat}(h:Eo fz w b y bl n N A)(hN:N≤N'):Eo fz w b y bl n N' A:=by
 obtain⟨D,fp,m,x,gv,F,h1,h2,h3,h4,h5,h6,h7,h8,h9⟩:=h;exact⟨D,fp,m,x,gv,F,h1,h2,h3,h4,h5,h6,by omega,h8,h9⟩
theorem Eo.up(h:Eo fz w b y bl n N A):Up A∧Fil.Good A∧used A≤Br n∧8≤n∧n≤16384:=by
 obtain⟨D,fp,m,x,gv,F,h1,h2,h3,h4,h5,h6,h7,h8,h9⟩:=h;subst h8 h6;refine⟨h4.up,h4.good,?_,h4.n8,h4.disk.fine.n2⟩;have:=h4.room;unfold St.room at this;rw[h4.size] at this;exact this
theorem SC{n:Nat}(h:n≤16384):Br n≤524288:=by unfold Br sz lg;omega
theorem yM{D:Dsk}{fp:Nat→Prop}{m x:Nat}{gv:Value}{F:St}(hd:AU w b D fp)(hf:Ci w y b m x gv F)(h9:∀ k,fp k∨Pq y m x gv k→bl k)(k:Nat)(hk:fp k∨k=y∨Ba x gv k):FB w bl k:=by
 refine⟨h9 k (hk.imp id (fun e=>e.elim .inl (fun e=>.inr (.inr e)))),fun t hb=>?_⟩;unfold ae;rcases hk with e|e|e
 ·by_cases h1:t=117
  ·subst h1;simp
  ·by_cases h2:t=195
   ·subst h2;simp
   ·exact(hd.BV _ e h1 h2 hb).elim
 ·subst e;by_cases h1:t=113
  ·subst h1;simp
  ·exact(Ap.ne hb hf.blk h1 rfl).elim
 ·rcases hf.Cy.kind e with g|g
  ·by_cases h1:t=207
   ·subst h1;simp
   ·exact(Ap.ne hb g h1 rfl).elim
  ·by_cases h1:t=27
   ·subst h1;simp
   ·exact(Ap.ne hb g h1 rfl).elim
theorem A7.ko{bl:Nat→Prop}(hu:A7 (FB w bl) w w'){k:Nat}{t:TypeId}{cs:Array Value}{fr:Nat×Nat}(h:w.heap[k]?=some (.cells cs t fr))(ht:t∉ae):w'.heap[k]?=some (.cells cs t fr):=
 (hu.block k (Ae h) (fun e=>e.not ⟨_,_,h⟩ ht)).trans h
theorem yN{D:Dsk}{F:St}(h:Fil.Calm D F):F.w.groups.length≤20000:=by
 have hw:=h.Cy;unfold logAt at hw;obtain⟨g1,g2,g3⟩:=Sg h.n8;rw[h.Nj,h.wn,h.log,←h.disk.now] at hw;exact(yA h.disk.fine (by omega) (by omega) hw).2.1
def QY(w:World)(b y:Nat)(bl:Nat→Prop)(n N:Nat)(A A':M):Prop:=
 ∃ D fp m x gv F,AU w b D fp∧Ci w y b m x gv F∧¬ fp m∧F.fault=40∧D.loose.length≤100000000∧D.n=n∧(Fil.Good A∧used A≤Br n∧n≤16384)∧F.m=A∧(∀ keep,∃ F' D',Zx (D.Jd keep) F' D'∧D'.left= -1∧F'.w.gen≤N∧(F'.m=A∨F'.m=A'))∧(∀ k,fp k∨Pq y m x gv k→bl k)
theorem QY.upd{P:Nat→Prop}{A':M}(h:QY w b y bl n N A A')(hu:A7 P w w')(hs:∀ k,Ap w k 9→¬ P k)(hP:∀ k,bl k→¬ P k):QY w' b y bl n N A A':=by
 obtain⟨D,fp,m,x,gv,F,h1,h2,h3,h4,h5,h6,h7,h8,h9,h10⟩:=h;exact⟨D,fp,m,x,gv,F,h1.upd hu (fun k hk=>hP k (h10 k (.inl hk))),h2.upd hu hs (fun k hk=>hP k (h10 k (.inr hk))),h3,h4,h5,h6,h7,h8,h9,h10⟩
def Ow(fz:Bool)(w:World)(b y:Nat)(bl:Nat→Prop)(n N:Nat)(A:M)(r:Int×M)(c:Int):Prop:=
 (c=r.1∧Eo fz w b y bl n N r.2)∨(fz=true∧c=40∧r.1=0∧QY w b y bl n N A r.2)
theorem Ow.calm{r:Int×M}{c:Int}(h:Ow false w b y bl n N A r c):c=r.1∧PH w b y bl n N r.2:=by
 rcases h with h|⟨h,_⟩
 ·exact h
 ·cases h
theorem Ow.zero{r:Int×M}(h:Ow fz w b y bl n N A r 0):r.1=0∧Eo fz w b y bl n N r.2:=by
 rcases h with h|⟨_,h,_⟩
 ·exact⟨h.1.symm,h.2⟩
 ·cases h
theorem ku(l:List (Dsk→Dsk×Int))(D:Dsk)(h:∀ f∈l,∀ D,(f D).1.loose.length≤D.loose.length+1000000)(hl:l.length≤4):(doS l D).1.loose.length≤D.loose.length+4000000:=by
 have:=vw 1000000 l D h;omega
theorem ajj(D:Dsk)(L:AO):(Cs D L).1.loose.length≤D.loose.length+4000000:=by
 have hd:=ku L.Hz D (fun f hf D=>by
  unfold AO.Hz at hf;simp only[AZ,List.not_mem_nil,or_false] at hf;rcases hf with rfl|rfl
  ·have:=Dsk.Ng D (L.from_:Int) (Wal.mark ((L.gen+1) % 18446744073709551616) 0);rw[Wal.Je] at this
   show(D.write (L.from_:Int) (Wal.mark ((L.gen+1) % 18446744073709551616) 0)).1.loose.length≤_
   omega
  ·have:=Dsk.Oa D;omega) (by show 2≤4;omega)
 unfold Cs;split
 ·show D.loose.length≤_;omega
 ·split<;>exact hd
theorem ajk(D:Dsk)(L:AO)(l:List T)(hl:rowLen l≤10000000):(wappend D L l).1.loose.length≤D.loose.length+4000000:=by
 unfold wappend;split
 ·show D.loose.length≤_;omega
 ·split
  ·show D.loose.length≤_;omega
  ·rename_i s hs
   have hsm:s.length≤rowLen l+68:=by
    have:=iP l;unfold Gi at this;rw[hs] at this;exact this
   have hd:=ku (L.acts s) D (fun f hf D=>by
    unfold AO.acts at hf;simp only[AZ,List.not_mem_nil,or_false] at hf;rcases hf with rfl|rfl|rfl|rfl
    ·have:=Dsk.Ng D ((L.from_+1+L.used:Nat):Int) s
     show(D.write ((L.from_+1+L.used:Nat):Int) s).1.loose.length≤_
     omega
    ·have:=Dsk.Oa D;omega
    ·have:=Dsk.Ng D (L.from_:Int) (Wal.mark L.gen (L.used+s.length / 64));rw[Wal.Je] at this
     show(D.write (L.from_:Int) (Wal.mark L.gen (L.used+s.length / 64))).1.loose.length≤_
     omega
    ·have:=Dsk.Oa D;omega) (by show 4≤4;omega)
   split
   ·show D.loose.length≤_;omega
   ·split<;>exact hd
theorem ajl(D:Dsk)(F:St)(m:M)(hu:used m≤10000000):(JH D F m).1.loose.length≤D.loose.length+8000000:=by
 have ha:=vP m
 have hd:=ku (EY F m) D (fun f hf D=>by
  unfold EY at hf;simp only[AZ,List.not_mem_nil,or_false] at hf;rcases hf with rfl|rfl|rfl|rfl
  ·have:=Dsk.Ng D ((BL F.log F.size (1 -F.Ak):Nat):Int) (Ls m)
   show(D.write ((BL F.log F.size (1 -F.Ak):Nat):Int) (Ls m)).1.loose.length≤_
   omega
  ·have:=Dsk.Oa D;omega
  ·have:=Dsk.Ng D ((0:Nat):Int) (Fil.mark (1 -F.Ak) ((F.w.gen+1) % 18446744073709551616));rw[Fil.Je] at this
   show(D.write ((0:Nat):Int) (Fil.mark (1 -F.Ak) ((F.w.gen+1) % 18446744073709551616))).1.loose.length≤_
   omega
  ·have:=Dsk.Oa D;omega) (by show 4≤4;omega)
 have hr:=ajj (doS (EY F m) D).1 F.w;unfold JH;split
 ·split
  ·show(Cs (doS (EY F m) D).1 F.w).1.loose.length≤_;omega
  ·show(Cs (doS (EY F m) D).1 F.w).1.loose.length≤_;omega
 ·show(doS (EY F m) D).1.loose.length≤_;omega
theorem ky(D:Dsk)(F:St)(l:List Af)(h1:rowLen (group l)≤10000000)(h2:used (made F.m l)≤10000000):(Gl D F l).1.loose.length≤D.loose.length+8000000:=by
 have ha:=ajk D F.w (group l) h1;have hl:=ajl D F (made F.m l) h2;unfold Gl;split
 ·show D.loose.length≤_;omega
 ·split
  ·show D.loose.length≤_;omega
  ·split
   ·show D.loose.length≤_;omega
   ·split
    ·split
     ·show(wappend D F.w (group l)).1.loose.length≤_;omega
     ·show(wappend D F.w (group l)).1.loose.length≤_;omega
    ·exact hl
theorem yO{a:Option Addr}{cap:Nat}{l:List Af}(h:Eo fz w b y bl n N A)(hN:N < 1000000000)(hL:D7 w a l)(hlen:l.length≤100000)(hw:Eb l≤900000):
  Calls prog 32 #[.pointer (some ⟨y,0,none⟩),.slice a l.length cap] w fun e w'=>∃ c:Int,e=.returned (.int .i64 c)∧∃ Bv,Ow fz w' b y Bv n (N+1) A (EL n A l,DN n A l) c∧A7 (FB w bl) w w'∧∀ k,Bv k→bl k∨w.heap.size≤k:=by
 have hup:=h.up;obtain⟨D,fp,m,x,gv,F,h1,h2,h3,h4,h5,h6,h7,h8,h9⟩:=h;have hok:∀ c∈l,c.name.length≤1000000∧c.data.length≤maxLen:=fun c hc=>by
  have:=yK hc;unfold maxLen;omega
 have au4:=SC hup.2.2.2.2;have EJ:=PG hup.1 l;have hrr:F.room=Br n:=by unfold St.room Br;rw[h4.size,h6]
 have hgw:=yL l;have EW:=Ml A;have EX:D.loose.length=0:=by rw[h4.disk.loose];rfl
 have hsm:=ky D F l (by omega) (by rw[h8];omega);have key:Calls prog 32 #[.pointer (some ⟨y,0,none⟩),.slice a l.length cap] w fun e w'=>NA w y b m x gv fp (Gl D F l) e w':=by
  by_cases asD:l.all Af.may=true
  ·exact yj h1 h2 h3 hL hlen hok h4.good (by rw[h8];omega) (by rw[h8];omega) (by rw[h4.size];have:=h4.disk.fine.n2;unfold sz;omega) (by omega) (by omega) (by have:=yN h4;omega) h4.fault asD
  ·exact yh h1 h2 h3 hL hlen (fun c hc=>⟨Ah (hok c hc).1 (by unfold maxLen;omega),(hok c hc).2⟩) h4.fault (by simpa using asD)
 refine key.mono ?_;rintro e w'⟨m',⟨he,fp',Dz,p1,p2,p3,p4,p5,p6⟩,hm'⟩;refine⟨_,he,fun k=>bl k∨w.heap.size≤k,?_,p4.mono (fun k hk=>yM h1 h2 h9 k hk),fun k hk=>hk⟩;have hbl:∀ k,fp' k∨Pq y m' x Dz k→bl k∨w.heap.size≤k:=by
  rintro k (hk|hk|hk|hk)
  ·exact(p5 k hk).imp (fun e=>h9 k (.inl e)) id
  ·exact .inl (h9 k (.inr (.inl hk)))
  ·subst hk;exact hm'.imp (fun e=>h9 _ (.inr (.inr (.inl e)))) id
  ·exact(p6 k hk).imp (fun e=>h9 k (.inr (.inr (.inr e)))) id
 by_cases asD:l.all Af.may=true
 ·by_cases hr:used (made F.m l)≤F.room
  ·have hc:=vT h4 (by omega) asD hr;have aw7:EL n A l=0:=(by unfold EL;rw[Aa (by simp[asD]),Aa (by rw[←h8,←hrr];omega)]);have auC:DN n A l=made A l:=(by unfold DN;rw[Ac ⟨asD,by rw[←h8,←hrr];exact hr⟩]);rw[aw7,auC];rcases hc.out with⟨o1,o2,o3,o4,o5⟩|⟨o1,o2,o3,o4,o5,o6⟩
   ·exact .inl ⟨o1,_,fp',m',x,Dz,_,p1,p2,p3,o2,fun e=>o5 (h5 e),hc.n.trans h6,by omega,by rw[←h8];exact o3,hbl⟩
   ·refine .inr ⟨?_,o1,rfl,_,fp',m',x,Dz,_,p1,p2,p3,o3,by omega,hc.n.trans h6,⟨hup.2.1,hup.2.2.1,hup.2.2.2.2⟩,o4.trans h8,fun keep=>?_,hbl⟩
    ·cases fz with
     |false=>exact absurd (h5 rfl) o2
     |true=>rfl
    ·obtain⟨F',D',q1,q2,q3,q4⟩:=o6 keep;exact⟨F',D',q1,q2,by omega,by rw[←h8];exact q4⟩
  ·have e1:Gl D F l=(D,F,4):=by
    unfold Gl;rw[Aa (by simp[h4.fault]),Aa (by simp[asD]),Ac (by omega)]
   have aw7:EL n A l=4:=(by unfold EL;rw[Aa (by simp[asD]),Ac (by rw[←h8,←hrr];omega)]);have auC:DN n A l=A:=(by unfold DN;rw[Aa (fun e=>hr (by rw[h8,hrr];exact e.2))]);rw[e1] at p1 p2 ⊢;rw[aw7,auC];exact .inl ⟨rfl,D,fp',m',x,Dz,F,p1,p2,p3,h4,h5,h6,by omega,h8,hbl⟩
 ·have hl2:l.all Af.may=false:=by simpa using asD
  have e1:Gl D F l=(D,F,2):=by
   unfold Gl;rw[Aa (by simp[h4.fault]),Ac hl2]
  have aw7:EL n A l=2:=by unfold EL;rw[Ac hl2]
  have auC:DN n A l=A:=by unfold DN;rw[Aa (fun e=>asD e.1)]
  rw[e1] at p1 p2 ⊢;rw[aw7,auC];exact .inl ⟨rfl,D,fp',m',x,Dz,F,p1,p2,p3,h4,h5,h6,by omega,h8,hbl⟩
theorem ajm{D D':Dsk}{fp:Nat→Prop}{F:St}(hd:AU w b D fp)(h:Zx D F D')(aAO:D'.left= -1)(EX:D.loose.length≤300000000)(hN:F.w.gen≤N):
  Calls prog 18 #[.pointer (some ⟨b,0,none⟩)] w fun e w'=>∃ y Bv,e=.returned (.tuple #[.pointer (some ⟨y,0,none⟩),.int .i64 0])∧PH w' b y Bv D.n N F.m∧A7 fp w w'∧(∀ k,Bv k→fp k∨w.heap.size≤k)∧w.heap.size≤y:=
 (ajc hd h.1 EX).mono (by
  rintro e w'⟨y,m,x,gv,fp',rfl,p1,p2,p3,p4,p5,p6⟩;refine⟨y,fun k=>fp k∨w.heap.size≤k,rfl,⟨D',fp',m,x,gv,F,p1,p2,p3,h.2.1,fun _=>aAO,h.2.2,hN,rfl,?_⟩,p4,fun k hk=>hk,p6 y (.inl rfl)⟩;rintro k (hk|hk)
  ·exact p5 k hk
  ·exact .inr (p6 k hk))
theorem ajn(n:Nat)(hn:8≤n)(hn2:n≤16384){fp:Nat→Prop}(hd:AU w b (Dsk.new n) fp):
  Calls prog 18 #[.pointer (some ⟨b,0,none⟩)] w fun e w'=>∃ y Bv,e=.returned (.tuple #[.pointer (some ⟨y,0,none⟩),.int .i64 0])∧PH w' b y Bv n 0 []∧A7 fp w w'∧(∀ k,Bv k→fp k∨w.heap.size≤k)∧w.heap.size≤y:=
 ajm (N:=0) hd (Fil.Calm.new hn hn2).opens rfl (by show(0:Nat)≤_;omega) (Ab 0)
theorem ajo(h:Eo fz w b y bl n N A)(k:T)(hk:k.length≤maxLen):
  Calls prog 143 #[.pointer (some ⟨y,0,none⟩),.string (bs k)] w fun e w'=>e=.returned (.tuple #[.string (bs ((Fil.get A k).getD [])),.bool (Fil.get A k).isSome])∧Eo fz w' b y bl n N A∧Bw w w':=by
 have h0:=h;obtain⟨D,fp,m,x,gv,F,h1,h2,h3,h4,h5,h6,h7,h8,h9⟩:=h;refine(ahe h2 k hk).mono ?_;rintro e w'⟨rfl,hb⟩;rw[h8];exact⟨rfl,h0.below hb,hb⟩
theorem ajp(h:Eo fz w b y bl n N A):
  Calls prog 112 #[.pointer (some ⟨y,0,none⟩)] w fun e w'=>∃ v,e=.returned v∧w'.ownsRow 0 9 1 v A.length (strCells (A.map (·.1)))∧Eo fz w' b y bl n N A∧Bw w w'∧∀ k,v.ownBlock=some k→w.heap.size≤k:=by
 have h0:=h;have hup:=h.up;have au4:=SC hup.2.2.2.2;have EW:=Ml A;obtain⟨D,fp,m,x,gv,F,h1,h2,h3,h4,h5,h6,h7,h8,h9⟩:=h;refine(ahH h2 h4.good (by rw[h8];omega)).mono ?_;rw[h8];rintro e w'⟨v,rfl,p1,p2,p3⟩;exact⟨v,rfl,p1,h0.below p2,p2,p3⟩
theorem yP{W:World}{g:Nat}{c:Af}(h:W.heap[g]?=some (.cells #[.string (bs c.name),.string (bs c.data),.bool c.gone] 65)):D7 W (some ⟨g,0,none⟩) [c]:=fun i hi=>by
 obtain rfl:i=0:=by simpa using hi
 refine⟨⟨g,0,none⟩,rfl,?_⟩;constructor
 ·rw[add_plain,add_plain,AY W g _ _ _ _ h];rfl
 ·rw[add_plain,add_plain,AY W g _ _ _ _ h];rfl
 ·rw[add_plain,add_plain,AY W g _ _ _ _ h];rfl
end
end
section
open Go.RowKit Go.Maps
open Fil
theorem Eo.shrink{w:World}{b y:Nat}{bl:Nat→Prop}{n N:Nat}{A:M}{fz:Bool}(h:Eo fz w b y bl n N A):Eo fz w b y (fun k=>bl k∧k < w.heap.size) n N A:=by
 obtain⟨D,fp,m,x,gv,F,h1,h2,h3,h4,h5,h6,h7,h8,h9⟩:=h;exact⟨D,fp,m,x,gv,F,h1,h2,h3,h4,h5,h6,h7,h8,fun k hk=>⟨h9 k hk,hk.elim (h1.lt k) (h2.lt k)⟩⟩
def PI(B:Nat)(w0 w:World)(b y n N:Nat)(A:M)(X:Nat→Prop):Prop:=Below B w0 w∧B≤w.heap.size∧(∀ k,X k→k < w.heap.size)∧∃ bl,PH w b y bl n N A∧∀ k,bl k→B≤k∧¬ X k
def Kept(X:Nat→Prop)(w w':World):Prop:=∀ k,X k→w'.heap[k]?=w.heap[k]?
section
variable {B:Nat}{w0 w w':World}{b y n N:Nat}{A:M}{X:Nat→Prop}
theorem PI.step(h:PI B w0 w b y n N A X)(hb:Bw w w'):PI B w0 w' b y n N A X:=by
 obtain⟨h1,h2,hx,bl,h3,h4⟩:=h;exact⟨h1.trans (hb.mono h2),Ah h2 hb.size,fun k hk=>Di (hx k hk) hb.size,bl,h3.below hb,h4⟩
theorem PI.turn{bl Bv:Nat→Prop}{A':M}{N' y':Nat}(h1:Below B w0 w)(h2:B≤w.heap.size)(hx:∀ k,X k→k < w.heap.size)(h4:∀ k,bl k→B≤k∧¬ X k)(g:PH w' b y' Bv n N' A')(hu:A7 (FB w bl) w w')(hs:∀ k,Bv k→bl k∨w.heap.size≤k):PI B w0 w' b y' n N' A' X∧Kept X w w':=
 ⟨⟨Bu h1 hu (fun k hk=>(h4 k hk.1).1) h2,Ah h2 hu.size,fun k hk=>Di (hx k hk) hu.size,Bv,g,fun k hk=>(hs k hk).elim (h4 k) (fun e=>⟨Ah h2 e,fun f=>by have:=hx k f;omega⟩)⟩,
  fun k hk=>hu.block k (hx k hk) (fun f=>(h4 k f.1).2 hk)⟩
end
theorem ajq{w:World}(n:Nat)(h1:1≤n)(h2:n≤16384):
  Calls prog 62 #[.int .i64 n] w fun e w'=>∃ b fp,e=.returned (.tuple #[.pointer (some ⟨b,0,none⟩),.int .i64 0])∧AU w' b (Dsk.new n) fp∧Bw w w'∧∀ k,fp k→w.heap.size≤k:=afV n w h1 h2
def yQ(B:Nat)(w0 w:World)(b y n N:Nat)(A:M):Prop:=Below B w0 w∧B≤w.heap.size∧∃ bl,PH w b y bl n N A∧∀ k,bl k→B≤k
section
variable {B:Nat}{w0 w w':World}{b y n N:Nat}{A:M}
theorem ajr{fp:Nat→Prop}(h1:Below B w0 w)(h2:B≤w.heap.size)(hn:8≤n)(hn2:n≤16384)(hd:AU w b (Dsk.new n) fp)(hf:∀ k,fp k→B≤k):
  Calls prog 18 #[.pointer (some ⟨b,0,none⟩)] w fun e w'=>∃ y,e=.returned (.tuple #[.pointer (some ⟨y,0,none⟩),.int .i64 0])∧yQ B w0 w' b y n 0 []:=by
 refine(ajn n hn hn2 hd).mono ?_;rintro e w'⟨y,Bv,rfl,g1,g2,g3,_⟩;exact⟨y,rfl,Bu h1 g2 hf h2,Ah h2 g2.size,Bv,g1,fun k hk=>(g3 k hk).elim (hf k) (fun e=>Ah h2 e)⟩
theorem Am(w:World)(o:Obj):Bw w (w.alloc o):=(Ad _ _).alloc (Ab _) _
end
end
namespace Man
open Go.RowKit Wal
end Man
section
open Go.RowKit Go.Shelf
def ajs:Go.Shelf.Ren:=⟨fun|16=>114|n=>n,fun|24=>27|9=>9|4=>4|n=>n,fun|n=>n⟩
theorem kz:Go.Proofs.Lays2.n16 prog ajs:={
 mixed:=by kernel_rfl
 f16:=func114.trans (congrArg some (by kernel_rfl))
 t4:=underlying4
 a4:=Tryz.isAgg4
 z4:=Tryz.sizeOf4
 v4:=Tryz.zeroValue4
 t9:=underlying9
 a9:=Tryz.isAgg9
 z9:=Tryz.sizeOf9
 v9:=Tryz.zeroValue9
 t24:=underlying27
 a24:=Tryz.isAgg27
 z24:=Tryz.sizeOf27
 v24:=Tryz.zeroValue27
 i9:=by kernel_rfl }
def kC:Go.Shelf.Ren:=⟨fun|194=>116|n=>n,fun|31=>27|9=>9|3=>3|4=>4|0=>0|n=>n,fun|n=>n⟩
theorem af:Go.Proofs.Lays.n194 prog kC:={
 mixed:=by kernel_rfl
 f194:=func116.trans (congrArg some (by kernel_rfl))
 t0:=underlying0
 a0:=Tryz.isAgg0
 z0:=Tryz.sizeOf0
 v0:=Tryz.zeroValue0
 t3:=underlying3
 a3:=Tryz.isAgg3
 z3:=Tryz.sizeOf3
 v3:=Tryz.zeroValue3
 t4:=underlying4
 a4:=Tryz.isAgg4
 z4:=Tryz.sizeOf4
 v4:=Tryz.zeroValue4
 t9:=underlying9
 a9:=Tryz.isAgg9
 z9:=Tryz.sizeOf9
 v9:=Tryz.zeroValue9
 t31:=underlying27
 a31:=Tryz.isAgg27
 z31:=Tryz.sizeOf27
 v31:=Tryz.zeroValue27 }
def ajt:Go.Shelf.Ren:=⟨fun|193=>208|n=>n,fun|31=>27|9=>9|4=>4|3=>3|0=>0|n=>n,fun|n=>n⟩
theorem ag:Go.Proofs.Lays.n193 prog ajt:={
 mixed:=by kernel_rfl
 f193:=func208.trans (congrArg some (by kernel_rfl))
 t0:=underlying0
 a0:=Tryz.isAgg0
 z0:=Tryz.sizeOf0
 v0:=Tryz.zeroValue0
 t3:=underlying3
 a3:=Tryz.isAgg3
 z3:=Tryz.sizeOf3
 v3:=Tryz.zeroValue3
 t4:=underlying4
 a4:=Tryz.isAgg4
 z4:=Tryz.sizeOf4
 v4:=Tryz.zeroValue4
 t9:=underlying9
 a9:=Tryz.isAgg9
 z9:=Tryz.sizeOf9
 v9:=Tryz.zeroValue9
 t31:=underlying27
 a31:=Tryz.isAgg27
 z31:=Tryz.sizeOf27
 v31:=Tryz.zeroValue27 }
end
namespace Man
open Go.RowKit Go.Maps Go.Sort Go.Shelf Go.Lib
def Az(l:List (List UInt8)):List (List UInt8):=Lib.compact (l.mergeSort fun x y=>decide (x≤y))
theorem GD(l:List (List UInt8)):strCells l=l.map encStr:=by unfold strCells;rfl
theorem aju(l:List (List UInt8)):(l.map bs).map Value.string=strCells l:=by unfold strCells;rw[List.map_map];rfl
abbrev AQ(w:World)(base:Nat)(v:Value)(l:List (List UInt8)):Prop:=w.ownsRow base 9 1 v l.length (strCells l)
theorem AQ.cells{w:World}{base:Nat}{l:List (List UInt8)}{g n cap:Nat}(h:AQ w base (.slice (some ⟨g,0,none⟩) n cap) l):
  n=l.length∧∀ j,j < (l.map bs).length→w.cell? ⟨g,0+j,none⟩=some (.string ((l.map bs).getD j ByteArray.empty)):=by
 rcases h.2 with⟨e0,_⟩|⟨g',cap',cur,e0,hb,hg,hn,hm,hs,ht⟩
 ·cases e0
 ·injection e0 with e1 e2 e3
  injection e1 with e1
  injection e1 with e1
  subst e1;subst e2;subst e3;refine⟨rfl,fun j hj=>?_⟩;rw[BQ] at hj;have e1:(cur.toList.take (l.length*1))[j]?=(strCells l)[j]? :=by rw[ht]
  rw[List.getElem?_take,Ac (by omega),CB,QA l j hj] at e1;simp only[World.cell?,hg,Fs];simp only[Option.isSome_none,Bool.false_eq_true,if_false];rw[e1,FK,Gt,BP hj];rfl
theorem AQ.parts{w:World}{base:Nat}{v:Value}{l:List (List UInt8)}(h:AQ w base v l):(v=.slice none 0 0∧l=[])∨∃ g cap,v=.slice (some ⟨g,0,none⟩) l.length cap∧base≤g∧l.length≤cap∧cap≤maxLen∧g < w.heap.size:=by
 rcases h.2 with⟨e0,h0⟩|⟨g,cap,cur,rfl,hb,hg,hn,hm,hs,ht⟩
 ·exact .inl ⟨e0,IL.1 h0⟩
 ·exact .inr ⟨g,cap,rfl,hb,hn,hm,(BZ.1 hg).1⟩
theorem ajv{w:World}{base:Nat}{v:Value}{l:List (List UInt8)}(h:AQ w base v l)(hl:l.length≤1000000):
  Calls prog 114 #[v] w fun e w'=>∃ v',e=.returned v'∧AQ w' w.heap.size v' l∧(v'=.slice none 0 0→l=[])∧Bw w w':=by
 rcases h.parts with⟨rfl,rfl⟩|⟨g,cap,rfl,_⟩
 ·refine(Any.slices_Clone_string_nil kz 0 0 w).mono ?_;rintro e w'⟨rfl,rfl⟩;exact⟨_,rfl,by unfold AQ;rw[GD];exact DJ _ _ _ _,fun _=>rfl,Ad _ _⟩
 ·cases l with
  |nil=>
   refine(Any.slices_Clone_string_zero kz ⟨g,0,none⟩ cap w).mono ?_;rintro e w'⟨v',rfl,ho,hne,hb⟩;exact⟨v',rfl,by unfold AQ;rw[GD];exact ho,fun e=>absurd e hne,hb⟩
  |cons x l=>
   refine(Any.slices_Clone_string kz g 0 (x :: l).length cap ((x :: l).map bs) w (by simp) (by omega) h.cells.2).mono ?_;rintro e w'⟨v',rfl,ho,hne,hb⟩;rw[ET (by simp),aju] at ho;exact⟨v',rfl,ho,fun e=>absurd e hne,hb⟩
theorem below_grow{B:Nat}{w0 w:World}(h:Below B w0 w)(hB:B≤w.heap.size)(os:Array Obj):Below B w0 (grow w os):=
 ⟨h.os,h.tape,h.output,by simp[grow];exact Ah h.size (by omega),fun k hk=>by
  rw[←h.block k hk];have:=h.size;simp[grow];exact Array.getElem?_append_left (by omega)⟩
theorem compact_length_le(l:List (List UInt8)):(Lib.compact l).length≤l.length:=by
 unfold Lib.compact Lib.compactUpTo;rw[BQ];exact Ah (Km _ _) (by simp)
theorem Ox(l:List (List UInt8)):(Az l).length≤l.length:=by
 unfold Az;exact Ah (compact_length_le _) (by simp)
theorem ajw{l k:List (List UInt8)}(h:l.map bs=k.map bs):l=k:=by
 have e:∀ a b,bs a=bs b→a=b:=fun a b e=>by
  have:=congrArg (fun x:ByteArray=>x.data.toList) e;simpa[bs] using this
 exact(List.map_inj_right (fun {a b} h=>e a b h)).1 h
theorem ajx{w:World}{base Oy:Nat}{v u:Value}{l k:List (List UInt8)}(h:AQ w base v l)(h2:AQ w Oy u k)(hl:l.length≤1000000)(hk:k.length≤1000000):
  Calls prog 208 #[v,u] w fun e w'=>e=.returned (.bool (decide (l=k)))∧Bw w w':=by
 obtain⟨q1,c1,rfl⟩:=AA h;obtain⟨q2,c2,rfl⟩:=AA h2;by_cases hlk:l.length=k.length
 ·rcases h.parts with⟨e1,e2⟩|⟨g,cap,e1,_⟩
  ·subst e2;cases e1;obtain rfl:k=[]:=IL.1 hlk.symm;refine(Any.slices_Equal_string_empty ag none q2 0 0 c2 w (by omega)).mono ?_;rintro e w'⟨rfl,rfl⟩;exact⟨rfl,Ad _ _⟩
  ·cases e1;rcases h2.parts with⟨e1,e2⟩|⟨g2,cap2,e1,_⟩
   ·subst e2;cases e1;obtain rfl:l=[]:=IL.1 hlk;refine(Any.slices_Equal_string_empty ag _ none _ 0 0 w (by omega)).mono ?_;rintro e w'⟨rfl,rfl⟩;exact⟨rfl,Ad _ _⟩
   ·cases e1;refine(Any.slices_Equal_string ag g 0 l.length c1 g2 0 k.length c2 (l.map bs) (k.map bs) w (by simp) (by simp) (by omega) (by omega) h.cells.2 h2.cells.2).mono ?_;rintro e w'⟨rfl,q,rfl⟩;refine⟨?_,DK w q⟩;rw[ET (by simp),ET (by simp)];have:(l.map bs=k.map bs)↔l=k:=⟨ajw,fun e=>by rw[e]⟩;simp[this]
 ·refine(Any.slices_Equal_string_lens ag q1 q2 _ c1 _ c2 w hlk).mono ?_;rintro e w'⟨rfl,rfl⟩;refine⟨?_,Ad _ _⟩;have:¬ l=k:=fun e=>hlk (by rw[e])
  simp[this]
end Man
section
open Go.RowKit Go.Shelf
end
namespace Man
open Go.RowKit Wal Fil
structure JR(w:World)(y:Nat)(A:M):Prop where
 gets:∀ W,Bw w W→∀ k:T,k.length≤1000→Calls prog 143 #[.pointer (some ⟨y,0,none⟩),.string (bs k)] W fun e w'=>e=.returned (.tuple #[.string (bs ((Fil.get A k).getD [])),.bool (Fil.get A k).isSome])∧Bw W w'
 small:∀ k:T,((Fil.get A k).getD []).length≤1000000
theorem Jl{W:World}{g:Nat}{a b c:Value}{t:TypeId}(h:W.heap[g]?=some (.cells #[a,b,c] t)):
  W.cell? ⟨g,0,none⟩=some a∧W.cell? ⟨g,1,none⟩=some b∧W.cell? ⟨g,2,none⟩=some c∧W.frozen? ⟨g,0,none⟩=false∧W.frozen? ⟨g,1,none⟩=false∧W.frozen? ⟨g,2,none⟩=false:=
 ⟨by rw[AY W g _ _ _ _ h];rfl,by rw[AY W g _ _ _ _ h];rfl,by rw[AY W g _ _ _ _ h];rfl,Cb W g 0 _ _ h,Cb W g 1 _ _ h,Cb W g 2 _ _ h⟩
end Man
end Go.Proofs.YtmbbhdebddbhoaaGreat
