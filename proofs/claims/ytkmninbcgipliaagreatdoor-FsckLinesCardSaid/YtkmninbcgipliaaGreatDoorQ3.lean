/- FilLaw FilRep2 -/
import Derived.Test.YtkmninbcgipliaaGreatDoorQ2
import Derived.Maps.RangeWalk
import Derived.Sort.KeysCollected
set_option maxHeartbeats 1000000
set_option maxRecDepth 100000
set_option linter.all false
namespace Go.Proofs.YtkmninbcgipliaaGreatDoor
open Tryz hiding t1 t2
namespace Af
open A9 (le val Fv)
open Aq (pad)
abbrev T:=List UInt8
theorem RL(a:T):¬ a < a:=List.lt_irrefl a
theorem XW{a b c:T}(h:a < b)(k:b < c):a < c:=List.lt_trans h k
theorem kQ(a b:T):a < b∨a=b∨b < a:=by
 by_cases h1:a < b
 ·exact .inl h1
 ·by_cases h2:b < a
  ·exact .inr (.inr h2)
  ·exact .inr (.inl (List.le_antisymm (List.not_lt.1 h2) (List.not_lt.1 h1)))
theorem KV{a b:T}(h:a < b):a≠b:=fun e=>RL b (by rwa[e] at h)
theorem QQ{a b:T}(h:a < b):¬ b < a:=fun k=>RL _ (XW h k)
abbrev M:=List (T×T)
def Up(F:M):Prop:=F.Pairwise (fun a b=>a.1 < b.1)
def get(F:M)(k:T):Option T:=(F.find? (fun p=>p.1 == k)).map (·.2)
def del(k:T)(F:M):M:=F.filter (fun p=>!(p.1 == k))
def put(k v:T)(F:M):M:=F.filter (fun p=>decide (p.1 < k))++(k,v) :: F.filter (fun p=>decide (k < p.1))
theorem Up.nil:Up []:=List.Pairwise.nil
theorem Up.nodup{F:M}(h:Up F):(F.map (·.1)).Nodup:=by
 rw[List.nodup_iff_pairwise_ne];exact List.pairwise_map.2 (h.imp fun h=>KV h)
theorem Up.del{F:M}(h:Up F)(k:T):Up (del k F):=h.filter _
theorem Up.put{F:M}(h:Up F)(k v:T):Up (put k v F):=by
 unfold Af.put;refine List.pairwise_append.2 ⟨h.filter _,JX.2 ⟨fun b hb=>?_,h.filter _⟩,fun a ha b hb=>?_⟩
 ·simpa using(FQ.1 hb).2
 ·have h1:a.1 < k:=by simpa using(FQ.1 ha).2
  rcases BZ.1 hb with rfl|hb
  ·exact h1
  ·exact XW h1 (by simpa using(FQ.1 hb).2)
theorem filter_none{F:M}{p:T×T→Bool}(h:∀ x∈F,p x=false):F.filter p=[]:=List.filter_eq_nil_iff.2 fun x hx=>by rw[h x hx];simp
theorem filter_all{F:M}{p:T×T→Bool}(h:∀ x∈F,p x=true):F.filter p=F:=List.filter_eq_self.2 h
theorem aqQ{F:M}(h:Up F)(k:T):del k F=F.filter (fun p=>decide (p.1 < k))++F.filter (fun p=>decide (k < p.1)):=by
 induction F with
 |nil=>rfl
 |cons p F ih=>
  obtain⟨h1,h2⟩:=JX.1 h;have ih:=ih h2;unfold del at ih ⊢;rcases kQ p.1 k with e|e|e
  ·rw[UX (by simpa using KV e),UX (by simpa using e),QZ (by simpa using List.not_lt.1 (QQ e)),ih];rfl
  ·have h3:∀ x∈F,k < x.1:=fun x hx=>e▸h1 x hx
   rw[QZ (by simpa using e),QZ (by rw[e];simp),QZ (by rw[e];simp),ih]
  ·have h3:∀ x∈F,k < x.1:=fun x hx=>XW e (h1 x hx)
   rw[UX (by simpa using Ne.symm (KV e)),QZ (by simpa using List.not_lt.1 (QQ e)),UX (by simpa using e)];have a1:F.filter (fun p=>decide (p.1 < k))=[]:=filter_none (fun x hx=>by simpa using List.not_lt.1 (QQ (h3 x hx)));have a2:F.filter (fun p=>decide (k < p.1))=F:=filter_all (fun x hx=>by simpa using h3 x hx);have a3:F.filter (fun p=>!(p.1 == k))=F:=filter_all (fun x hx=>by simpa using Ne.symm (KV (h3 x hx)));rw[a1,a2,a3];rfl
theorem ZT{F:M}(h:Up F)(k v:T):(put k v F).Perm ((k,v) :: del k F):=by
 rw[aqQ h];exact List.perm_middle
theorem get_some{F:M}{k v:T}(h:get F k=some v):(k,v)∈F:=by
 unfold get at h;obtain⟨p,hp,rfl⟩:=Sc.1 h;have h1:=List.find?_some hp;simp at h1;subst h1;exact List.mem_of_find?_eq_some hp
theorem get_mem{F:M}(h:Up F){k v:T}(hm:(k,v)∈F):get F k=some v:=by
 induction F with
 |nil=>simp at hm
 |cons p F ih=>
  obtain⟨h1,h2⟩:=JX.1 h;unfold get;rcases BZ.1 hm with e|hm
  ·subst e;simp
  ·have:¬ p.1=k:=fun e=>RL k (by have:=h1 _ hm;rwa[e] at this)
   rw[List.find?_cons_of_neg (by simpa using this)];exact ih h2 hm
theorem get_none{F:M}{k:T}:get F k=none↔∀ p∈F,p.1≠k:=by
 unfold get;rw[Option.map_eq_none_iff,List.find?_eq_none];simp
theorem TC{F:M}(h:Up F){k v:T}{p:T×T}:p∈put k v F↔p=(k,v)∨(p∈F∧p.1≠k):=by
 rw[(ZT h k v).mem_iff,BZ];unfold del;rw[FQ];simp
theorem XX{F:M}{k:T}{p:T×T}:p∈del k F↔p∈F∧p.1≠k:=by
 unfold del;rw[FQ];simp
theorem get_put{F:M}(h:Up F)(k v j:T):get (put k v F) j=if j=k then some v else get F j:=by
 by_cases e:j=k
 ·subst e;rw[Ac rfl];exact get_mem (h.put _ _) ((TC h).2 (.inl rfl))
 ·rw[Aa e];cases hg:get F j with
  |none=>
   rw[get_none] at hg ⊢;intro p hp;rcases(TC h).1 hp with rfl|⟨hp,_⟩
   ·exact fun e'=>e e'.symm
   ·exact hg p hp
  |some x=>exact get_mem (h.put _ _) ((TC h).2 (.inr ⟨get_some hg,e⟩))
theorem iX{F:M}(h:Up F)(k j:T):get (del k F) j=if j=k then none else get F j:=by
 by_cases e:j=k
 ·subst e;rw[Ac rfl,get_none];exact fun p hp=>(XX.1 hp).2
 ·rw[Aa e];cases hg:get F j with
  |none=>
   rw[get_none] at hg ⊢;exact fun p hp=>hg p (XX.1 hp).1
  |some x=>exact get_mem (h.del _) (XX.2 ⟨get_some hg,e⟩)
theorem ah:∀ {F G:M},Up F→Up G→(∀ p,p∈F↔p∈G)→F=G
 |[],[],_,_,_=>rfl
 |[],q :: G,_,_,h=>absurd ((h q).2 Hg) (by simp)
 |p :: F,[],_,_,h=>absurd ((h p).1 Hg) (by simp)
 |p :: F,q :: G,hF,hG,h=>by
  obtain⟨f1,f2⟩:=JX.1 hF;obtain⟨g1,g2⟩:=JX.1 hG;have e:p=q:=by
   rcases BZ.1 ((h p).1 Hg) with e|e
   ·exact e
   ·rcases BZ.1 ((h q).2 Hg) with e2|e2
    ·exact e2.symm
    ·exact absurd (g1 _ e) (QQ (f1 _ e2))
  subst e;rw[ah f2 g2 (fun x=>?_)];constructor
  ·intro hx;rcases BZ.1 ((h x).1 (GI _ hx)) with e|e
   ·exact absurd (f1 _ hx) (by rw[e];exact RL _)
   ·exact e
  ·intro hx;rcases BZ.1 ((h x).2 (GI _ hx)) with e|e
   ·exact absurd (g1 _ hx) (by rw[e];exact RL _)
   ·exact e
structure Am where
 name:T
 data:T
 gone:Bool
def Fq(name data:T):Bool:=decide (name≠[]∧name.length≤32∧data.length≤65535)
def Am.may(c:Am):Bool:=Fq c.name c.data && (!c.gone || c.data.isEmpty)
def Am.on(F:M)(c:Am):M:=if c.gone then del c.name F else put c.name c.data F
def made(F:M)(l:List Am):M:=l.foldl Am.on F
theorem sK(F:M)(l:List Am)(c:Am):made F (l++[c])=Am.on (made F l) c:=by unfold made;rw[List.foldl_append];rfl
theorem sJ(F:M)(l k:List Am):made F (l++k)=made (made F l) k:=by unfold made;rw[List.foldl_append]
theorem Up.on{F:M}(h:Up F)(c:Am):Up (Am.on F c):=by unfold Am.on;split;exact h.del _;exact h.put _ _
theorem Up.made{F:M}(h:Up F)(l:List Am):Up (made F l):=by
 induction l generalizing F with
 |nil=>exact h
 |cons c l ih=>exact ih (h.on c)
def Good(F:M):Prop:=∀ p∈F,Fq p.1 p.2=true
theorem Good.on{F:M}(h:Good F)(hu:Up F){c:Am}(hc:c.may=true):Good (Am.on F c):=by
 unfold Am.may at hc;simp only[Bool.and_eq_true] at hc;unfold Am.on;intro p hp;split at hp
 ·exact h p (XX.1 hp).1
 ·rcases(TC hu).1 hp with rfl|⟨hp,_⟩
  ·exact hc.1
  ·exact h p hp
theorem Good.made{F:M}(h:Good F)(hu:Up F){l:List Am}(hl:∀ c∈l,c.may=true):Good (made F l):=by
 induction l generalizing F with
 |nil=>exact h
 |cons c l ih=>exact ih (h.on hu (hl c Hg)) (hu.on c) (fun x hx=>hl x (GI _ hx))
theorem agT{F:M}(hu:Up F)(l:List Am)(k:T):get (made F l) k=match l.reverse.find? (fun c=>c.name == k) with|none=>get F k|some c=>if c.gone then none else some c.data:=by
 induction l generalizing F with
 |nil=>rfl
 |cons c l ih=>
  show get (made (Am.on F c) l) k=_
  rw[ih (hu.on c),List.reverse_cons,List.find?_append];cases h:l.reverse.find? (fun c=>c.name == k) with
  |some x=>rfl
  |none=>
   simp only[Option.none_or,List.find?_cons,List.find?_nil];by_cases e:c.name=k
   ·subst e;simp only[beq_self_eq_true];unfold Am.on;split
    ·rw[iX hu,Ac rfl]
    ·rw[get_put hu,Ac rfl]
   ·have e2:(c.name == k)=false:=(by simpa using e);rw[e2];simp only;unfold Am.on;split
    ·rw[iX hu,Aa (fun h=>e h.symm)]
    ·rw[get_put hu,Aa (fun h=>e h.symm)]
def cost(p:T×T):Nat:=8+p.1.length+p.2.length
def used(F:M):Nat:=4+(F.map cost).sum
def SH(p:T×T):T:=le 4 p.1.length++(p.1++(le 4 p.2.length++p.2))
def bytes(F:M):T:=le 4 F.length++F.flatMap SH
theorem ars(p:T×T):(SH p).length=cost p:=by unfold SH cost;simp[A9.BV];omega
theorem p8(F:M):(F.flatMap SH).length=(F.map cost).sum:=by
 induction F with
 |nil=>rfl
 |cons p F ih=>rw[Q0,Az,ih,ars];rfl
theorem yC(F:M):(bytes F).length=used F:=by unfold bytes used;rw[Az,A9.BV,p8]
theorem anA{F:M}{p:T×T}(h:p∈F):cost p+4≤used F:=by
 unfold used;have:cost p≤(F.map cost).sum:=by
  induction F with
  |nil=>simp at h
  |cons q F ih=>
   rw[Ce,Eo];rcases BZ.1 h with rfl|h
   ·omega
   ·have:=ih h;omega
 omega
theorem QV(F:M):4+8*F.length≤used F:=by
 unfold used;have:8*F.length≤(F.map cost).sum:=by
  induction F with
  |nil=>simp
  |cons q F ih=>rw[Ce,Eo,BN];unfold cost at ih ⊢;omega
 omega
def cut(s:T):Option (T×T):=if s.length < 4 then none else if val (s.take 4)≤s.length -4 then some ((s.take (4+val (s.take 4))).drop 4,s.drop (4+val (s.take 4))) else none
def TA(last:Option T)(k:T):Bool:=match last with|none=>true|some x=>decide (x < k)
def JO:Nat→Option T→T→Option (M×T)
 |0,_,s=>some ([],s)
 |n+1,last,s=>(cut s).bind fun p=>(cut p.2).bind fun q=>if Fq p.1 q.1=true∧TA last p.1=true then(JO n (some p.1) q.2).map fun r=>((p.1,q.1) :: r.1,r.2) else none
def read(s:T):Option M:=if s.length < 4 then none else(JO (val (s.take 4)) none (s.drop 4)).bind fun r=>if r.2=[] then some r.1 else none
theorem yR(s R:T)(h:s.length < 4294967296):cut (le 4 s.length++(s++R))=some (s,R):=by
 have e1:(le 4 s.length++(s++R)).take 4=le 4 s.length:=IP (A9.BV _ _);have e2:val (le 4 s.length)=s.length:=Aq.Yf 4 _ (by omega);unfold cut;rw[e1,e2,Aa (by simp[A9.BV]),Ac (by simp[A9.BV])];have e3:(le 4 s.length++(s++R)).drop 4=s++R:=Mt (A9.BV _ _);have e4:(le 4 s.length++(s++R)).drop (4+s.length)=R:=by rw[←List.drop_drop,e3,Mt rfl]
 have e5:((le 4 s.length++(s++R)).take (4+s.length)).drop 4=s:=by
  rw[List.drop_take,e3,show 4+s.length -4=s.length by omega,IP rfl]
 rw[e4,e5]
theorem Vw{s p q:T}(h:cut s=some (p,q)):4≤s.length∧p.length+q.length+4=s.length:=by
 unfold cut at h;split at h
 ·cases h
 ·split at h
  ·simp only[Ci,Mx] at h;obtain⟨rfl,rfl⟩:=h;rw[Cs,Cs,Be];omega
  ·cases h
theorem alP:∀ (F:M) (last:Option T) (R:T),Up F→Good F→(∀ x,last=some x→∀ p∈F,x < p.1)→JO F.length last (F.flatMap SH++R)=some (F,R)
 |[],_,R,_,_,_=>rfl
 |p :: F,last,R,hu,hg,hl=>by
  obtain⟨u1,u2⟩:=JX.1 hu;have g1:=hg p Hg;have g2:p.1.length≤32∧p.2.length≤65535:=by unfold Fq at g1;simp at g1;exact⟨g1.2.1,g1.2.2⟩
  rw[BN,Q0];unfold JO;have e1:SH p++F.flatMap SH++R=le 4 p.1.length++(p.1++(le 4 p.2.length++(p.2++(F.flatMap SH++R)))):=by unfold SH;simp only[Dy]
  rw[e1,yR _ _ (by omega)];simp only[CF];rw[yR _ _ (by omega)];simp only[CF];have hn:TA last p.1=true:=by
   cases last with
   |none=>rfl
   |some x=>simpa[TA] using hl x rfl p Hg
  rw[Ac ⟨g1,hn⟩,alP F (some p.1) R u2 (fun q hq=>hg q (GI _ hq)) (fun x hx q hq=>by cases hx;exact u1 q hq)];rfl
theorem ayy{F:M}(hu:Up F)(hg:Good F)(hn:F.length < 4294967296):read (bytes F)=some F:=by
 unfold read bytes;rw[Aa (by simp[A9.BV]),IP (A9.BV _ _),Mt (A9.BV _ _),Aq.Yf 4 _ (by omega)];have:=alP F none [] hu hg (fun x e=>by cases e);rw[En] at this;rw[this];rfl
def Ug(g:Bool):UInt8:=if g then 1 else 0
def group(l:List Am):List T:=l.flatMap fun c=>[Ug c.gone :: c.name,c.data]
def ungroup:List T→Option (List Am)
 |[]=>some []
 |[_]=>none
 |[] :: _ :: _=>none
 |(b :: n) :: d :: l=>if b.toNat≤1∧Am.may ⟨n,d,b == 1⟩=true then(ungroup l).map (⟨n,d,b == 1⟩ :: ·) else none
theorem asZ(l:List Am)(c:Am):group (l++[c])=group l++[Ug c.gone :: c.name,c.data]:=by unfold group;simp
theorem agX(l:List Am):(group l).length=2*l.length:=by
 induction l with
 |nil=>rfl
 |cons c l ih=>show(_ :: _ :: group l).length=_;simp[ih];omega
theorem ann:∀ (l:List Am),(∀ c∈l,c.may=true)→ungroup (group l)=some l
 |[],_=>rfl
 |c :: l,h=>by
  show ungroup ((Ug c.gone :: c.name) :: c.data :: group l)=_
  have hc:=h c Hg;have e:(Ug c.gone == 1)=c.gone:=by unfold Ug;cases c.gone<;>rfl
  have e2:(Ug c.gone).toNat≤1:=by unfold Ug;cases c.gone<;>decide
  simp only[ungroup];rw[e,Ac ⟨e2,hc⟩,ann l (fun x hx=>h x (GI _ hx))];rfl
end Af
section
open Aq
structure A8.Calm(D:A8):Prop where
 fine:D.BX
 loose:D.loose=[]
 up:D.down=false
theorem A8.Calm.now{D:A8}(h:D.Calm):D.now=D.base:=by unfold A8.now;rw[h.loose];rfl
theorem afR(a b:List (A8→A8×Int))(D:A8):Bt (a++b) D=if(Bt a D).2=0 then Bt b (Bt a D).1 else Bt a D:=by
 induction a generalizing D with
 |nil=>simp[Bt]
 |cons f a ih=>
  rw[Hf,bB,bB];by_cases h:(f D).2=0
  ·rw[Ac h,Ac h,ih]
  ·rw[Aa h,Aa h,Aa h]
def Wrote(D:A8)(at_ k:Nat)(s:List UInt8)(r:A8×Int):Prop:=
 (r.2=0∧r.1.Calm∧r.1.n=D.n∧r.1.base=A8.lay D.base (puts at_ s k)∧(D.left= -1→r.1.left= -1))∨
 (r.2=40∧D.left≠ -1∧r.1.BX∧r.1.down=true∧r.1.n=D.n∧∀ keep,∀ j,j < at_∨at_+k≤j∨k=1→(r.1.NC keep).base j=D.base j)
theorem aBt(D:A8)(a:Nat)(s:List UInt8)(n:Nat)(h:D.left= -1):(A8.writes D a s n).2=0∧(A8.writes D a s n).1.left= -1:=by
 induction n generalizing D a s with
 |zero=>exact⟨rfl,h⟩
 |succ n ih=>
  simp only[A8.writes];rw[Aa (by omega)];exact ih _ _ _ (by show max (D.left -1) (-1)= -1;omega)
theorem mh{D:A8}(h:D.Calm){at_ k:Nat}{s:List UInt8}(hs:s.length=64*k)(hk:at_+k≤D.n):Wrote D at_ k s (Bt [fun D=>D.write (at_:Int) s,A8.flush] D):=by
 have hF:=h.fine;have Gm:=hF.n2;have hW:D.write (at_:Int) s=A8.writes D at_ s k:=by
  unfold A8.write;rw[Aa (by simp[h.up]),Ac ⟨by omega,by simp[A8.inside];omega⟩,show s.length / 64=k by omega];rfl
 have hl:=fun e=>aBt D at_ s k e
 obtain⟨w1,w2,w3⟩:=aBv D h.up at_ s k;have hF1:=hF.writes (at_:=at_) (s:=s) (n:=k) (by omega) (by omega);have dK:k=1→(A8.writes D at_ s k).2=40→(A8.writes D at_ s k).1.loose=[]:=by
  rintro rfl;simp only[A8.writes];split
  ·intro _;exact h.loose
  ·intro e;cases e
 rw[bB]
 show Wrote D at_ k s (if(D.write (at_:Int) s).2=0 then _ else D.write (at_:Int) s)
 rw[hW];generalize A8.writes D at_ s k=r at*;obtain⟨D1,e1⟩:=r;simp only at*;rcases w3 with⟨rfl,g2,g3⟩|⟨rfl,g2,P,g3,g4⟩
 ·rw[Ac rfl];rw[h.loose,Ev] at g3;have IE:D1.flush=({ D1 with base:=A8.lay D1.base D1.loose,loose:=[] },0):=by unfold A8.flush;rw[Aa (by simp[g2])]
  have qf:=hF1.flush;rw[IE] at qf;rw[bB,IE,Ac rfl];refine .inl ⟨rfl,⟨qf,rfl,g2⟩,w2,?_,fun e=>(hl e).2⟩
  show A8.lay D1.base D1.loose=_
  rw[w1,g3]
 ·rw[Aa (by decide)];refine .inr ⟨rfl,fun e=>by have:=(hl e).1;simp at this,hF1,g2,w2,fun keep j hj=>?_⟩;have e2:(D1.NC keep).base=A8.lay D1.base (A8.kept D1 keep):=rfl;rw[e2,abL,w1];intro p hp;have EC:=A8.ak6 0 _ p hp;rcases hj with hj|hj|hj
  ·rw[g3,h.loose,Ev] at EC;have:=g4 p EC;omega
  ·rw[g3,h.loose,Ev] at EC;have:=g4 p EC;omega
  ·rw[dK hj rfl] at EC;simp at EC
def logAt(f:Nat→List UInt8)(L:Bz):Prop:=Jt (A8.text f L.from_ L.n) L.n=some (L.gen,L.used,L.groups)
theorem abP{f g:Nat→List UInt8}{L:Bz}(h:logAt f L)(e:∀ j,L.from_≤j→j < L.from_+L.n→g j=f j):logAt g L:=by
 unfold logAt at*;rw[A8.PX (g:=f) _ _ (fun i a b=>e i a b)];exact h
theorem akr{D:A8}(hD:D.BX){L:Bz}(h:logAt D.base L)(h1:1≤L.n)(hn:L.from_+L.n≤D.n){g:Nat→List UInt8}
  (e:∀ j,L.from_≤j→j < L.from_+1+L.used→g j=D.base j):logAt g L:=by
 unfold logAt at*;have GR:(A8.text D.base L.from_ L.n).length=64*L.n:=A8.lN hD.base _ _ (by omega);have hu:=(kZ h (by omega) h1).1;refine axE h (by omega) h1 ?_;obtain⟨m,hm⟩:∃ m,L.n=1+L.used+m:=⟨L.n -(1+L.used),by omega⟩;have e2:=A8.PX (f:=g) (g:=D.base) L.from_ (1+L.used) (fun i a b=>e i a (by omega));rw[hm,A8.Y9 D.base L.from_ (1+L.used) m,A8.Y9 g L.from_ (1+L.used) m,e2];rw[show 64+64*L.used=64*(1+L.used) by omega,IP (A8.XV (fun i a b=>hD.base i (by omega))),IP (A8.XV (fun i a b=>hD.base i (by omega)))]
def ao2(D:A8)(L:Bz)(l:List (List UInt8))(k:Nat)(r:A8×Bz×Int):Prop:=
 (r.2.2=0∧r.2.1=L.grown l k∧r.1.Calm∧r.1.n=D.n∧logAt r.1.base (L.grown l k)∧(∀ j,j < L.from_∨L.from_+L.n≤j→r.1.base j=D.base j)∧(D.left= -1→r.1.left= -1))∨
 (r.2.2=40∧D.left≠ -1∧r.2.1=L.fell 40∧r.1.BX∧r.1.down=true∧r.1.n=D.n∧∀ keep,logAt (r.1.NC keep).base L∧∀ j,j < L.from_∨L.from_+L.n≤j→(r.1.NC keep).base j=D.base j)
theorem QN(f:Nat→List UInt8)(a:Nat)(s:List UInt8)(k j:Nat)(h:j < a∨a+k≤j):A8.lay f (puts a s k) j=f j:=abL _ _ _ (fun p hp=>by have:=alM p hp;omega)
theorem abM(f:Nat→List UInt8)(a:Nat)(s:List UInt8)(hs:s.length=64):A8.lay f (puts a s 1) a=s:=by
 have:=acT f a s 1 (by omega);simpa[A8.text] using this
theorem at7{f:Nat→List UInt8}{a n u k:Nat}{s M:List UInt8}(hs:s.length=64*k)(hM:M.length=64)(hk:u+k+1≤n)(hf:∀ i,a≤i→i < a+n→(f i).length=64):
  A8.text (A8.lay (A8.lay f (puts (a+1+u) s k)) (puts a M 1)) a n=M++(((A8.text f a n).drop 64).take (64*u)++(s++A8.text f (a+1+u+k) (n -1 -u -k))):=by
 obtain⟨m,Kb⟩:∃ m,n=m+1:=⟨n -1,by omega⟩;subst Kb
 show _++A8.text _ (a+1) m=_
 rw[abM _ _ _ hM]
 congr 1
 rw[A8.PX (g:=A8.lay f (puts (a+1+u) s k)) (a+1) m (fun i a1 a2=>QN _ _ _ _ _ (by omega))];obtain⟨q,rfl⟩:∃ q,m=u+(k+q):=⟨m -(u+k),by omega⟩;rw[A8.Y9,A8.Y9];have t1:A8.text (A8.lay f (puts (a+1+u) s k)) (a+1) u=((A8.text f a (u+(k+q)+1)).drop 64).take (64*u):=by
  rw[A8.PX (g:=f) (a+1) u (fun i a1 a2=>QN _ _ _ _ _ (by omega))]
  show _=((f a++A8.text f (a+1) _).drop 64).take _
  rw[Mt (hf a (by omega) (by omega)),A8.Y9,IP (A8.XV (fun i a1 a2=>hf i (by omega) (by omega)))]
 rw[t1,acT _ _ _ _ hs,A8.PX (g:=f) (a+1+u+k) q (fun i a1 a2=>QN _ _ _ _ _ (by omega)),show u+(k+q)+1 -1 -u -k=q by omega]
theorem aBj{D:A8}{L:Bz}(h:D.Calm)(hl:logAt D.base L)(hf:L.fault=0)(h2:2≤L.n)(hn:L.from_+L.n≤D.n){l:List (List UInt8)}{s:List UInt8}(hg:Hu l=some s)(J2:¬ L.n -1 -L.used < s.length / 64):
  ao2 D L l (s.length / 64) (Dw D L l):=by
 obtain⟨VC,aCi⟩:=iZ hg;have hF:=h.fine;have Gm:=hF.n2;have hlen:(A8.text D.base L.from_ L.n).length=64*L.n:=A8.lN hF.base _ _ (by omega);have hu:=(kZ hl (by omega) (by omega)).1;obtain⟨k,hk⟩:∃ k,k=s.length / 64:=⟨_,rfl⟩;rw[←hk] at J2 ⊢;have CZ:s.length=64*k:=by omega
 have hm:=Aq.NY L.gen (L.used+k);have aae:L.acts s=[fun D=>D.write ((L.from_+1+L.used:Nat):Int) s,A8.flush]++[fun D=>D.write (L.from_:Int) (Aq.mark L.gen (L.used+k)),A8.flush]:=by unfold Bz.acts;rw[←hk];rfl
 have auz:Dw D L l=if(Bt (L.acts s) D).2=0 then((Bt (L.acts s) D).1,L.grown l k,0) else((Bt (L.acts s) D).1,L.fell (Bt (L.acts s) D).2,(Bt (L.acts s) D).2):=by
  unfold Dw;rw[Aa (by simp[hf]),hg];simp only;rw[←hk,Aa J2]
 rw[auz,aae,afR];have w1:=mh h (at_:=L.from_+1+L.used) (k:=k) (s:=s) CZ (by omega);generalize Bt [fun D=>D.write ((L.from_+1+L.used:Nat):Int) s,A8.flush] D=r1 at*;rcases w1 with⟨e1,c1,n1,b1,l1⟩|⟨e1,l1,f1,d1,n1,b1⟩
 ·rw[Ac e1];have w2:=mh c1 (at_:=L.from_) (k:=1) (s:=Aq.mark L.gen (L.used+k)) (by omega) (by omega);generalize Bt [fun D=>D.write (L.from_:Int) (Aq.mark L.gen (L.used+k)),A8.flush] r1.1=r2 at*;rcases w2 with⟨e2,c2,n2,b2,l2⟩|⟨e2,l2,f2,d2,n2,b2⟩
  ·rw[Ac e2];refine .inl ⟨rfl,rfl,c2,n2.trans n1,?_,fun j hj=>?_,fun e=>l2 (l1 e)⟩
   ·have Ta:=axD hl (by omega) (by omega) (by omega) hg (R:=A8.text D.base (L.from_+1+L.used+k) (L.n -1 -L.used -k)) (by omega)
    show Jt (A8.text _ L.from_ L.n) L.n=some (L.gen,L.used+k,L.groups++[l])
    rw[←hk] at Ta;refine Eq.trans ?_ Ta;rw[b2,b1]
    congr 1
    exact at7 CZ hm (by omega) (fun i a b=>hF.base i (by omega))
   ·rw[b2,QN _ _ _ _ _ (by omega),b1,QN _ _ _ _ _ (by omega)]
  ·rw[Aa (by rw[e2];decide),e2];refine .inr ⟨rfl,fun e=>l2 (l1 e),rfl,f2,d2,n2.trans n1,fun keep=>⟨?_,fun j hj=>?_⟩⟩
   ·refine akr hF hl (by omega) hn (fun j a b=>?_);rw[b2 keep j (.inr (.inr rfl)),b1,QN _ _ _ _ _ (by omega)]
   ·rw[b2 keep j (.inr (.inr rfl)),b1,QN _ _ _ _ _ (by omega)]
 ·have hne:r1.2≠0:=by rw[e1];decide
  rw[Aa hne,Aa hne,e1];refine .inr ⟨rfl,l1,rfl,f1,d1,n1,fun keep=>⟨?_,fun j hj=>?_⟩⟩
  ·exact akr hF hl (by omega) hn (fun j a b=>b1 keep j (by omega))
  ·exact b1 keep j (by omega)
def adA(D:A8)(L:Bz)(r:A8×Bz×Int):Prop:=
 (r.2.2=0∧r.2.1=L.Ud∧r.1.Calm∧r.1.n=D.n∧logAt r.1.base L.Ud∧(∀ j,j < L.from_∨L.from_+L.n≤j→r.1.base j=D.base j)∧(D.left= -1→r.1.left= -1))∨
 (r.2.2=40∧D.left≠ -1∧r.2.1=L.fell 40∧r.1.BX∧r.1.down=true∧r.1.n=D.n∧∀ keep,∀ j,(r.1.NC keep).base j=D.base j)
theorem ao0{D:A8}{L:Bz}(h:D.Calm)(hf:L.fault=0)(h2:2≤L.n)(hn:L.from_+L.n≤D.n):adA D L (DR D L):=by
 have hF:=h.fine;have Gm:=hF.n2;have hm:=Aq.NY ((L.gen+1) % 18446744073709551616) 0;have El:(L.gen+1) % 18446744073709551616 < 18446744073709551616:=Nat.mod_lt _ (by decide);have w1:=mh h (at_:=L.from_) (k:=1) (s:=Aq.mark ((L.gen+1) % 18446744073709551616) 0) (by omega) (by omega);unfold DR Bz.LB;rw[Aa (by simp[hf])];have qJ:L.Ud={ L with gen:=(L.gen+1) % 18446744073709551616,used:=0,groups:=[] }:=rfl;unfold adA;rw[qJ];generalize (L.gen+1) % 18446744073709551616=g2 at*;generalize Bt [fun D=>D.write (L.from_:Int) (Aq.mark g2 0),A8.flush] D=r1 at*;rcases w1 with⟨e1,c1,n1,b1,l1⟩|⟨e1,l1,f1,d1,n1,b1⟩
 ·rw[Ac e1];refine .inl ⟨rfl,rfl,c1,n1,?_,fun j hj=>by show r1.1.base j=_;rw[b1,QN _ _ _ _ _ (by omega)],l1⟩
  show Jt (A8.text r1.1.base L.from_ L.n) L.n=some (g2,0,[])
  obtain⟨m,Kb⟩:∃ m,L.n=m+1:=⟨L.n -1,by omega⟩;rw[Kb,b1]
  show Jt (A8.lay D.base (puts L.from_ (Aq.mark g2 0) 1) L.from_++A8.text _ (L.from_+1) m) (m+1)=_
  rw[abM _ _ _ hm];exact al4 (L:=[]) (S:=[]) El (by omega) (by decide) rfl rfl
 ·have hne:r1.2≠0:=by rw[e1];decide
  rw[Aa hne,e1];exact .inr ⟨rfl,l1,rfl,f1,d1,n1,fun keep j=>b1 keep j (.inr (.inr rfl))⟩
end
namespace Af
open A9 (le val Fv)
open Aq
structure St where
 log:Nat
 size:Nat
 AL:Nat
 m:M
 w:Bz
 fault:Int
def lg(n:Nat):Nat:=max (n / 8) 2
def sz(n:Nat):Nat:=(n -1 -lg n) / 2
theorem ZJ{n:Nat}(h:8≤n):2≤lg n∧2≤sz n∧1+lg n+2*sz n≤n:=by unfold sz lg;omega
def mark(AL num:Nat):T:=pad (Fv ([70,73,76,49]++[UInt8.ofNat AL]++le 8 num))
theorem NY(AL num:Nat):(mark AL num).length=64:=by
 unfold mark;rw[RN,A9.RU];simp[A9.BV]
def CS(log size AL:Nat):Nat:=1+log+AL*size
def N9(f:Nat→T)(log size:Nat):Option (Nat×Nat×M):=
 if f 0=pad [0] then some (0,0,[]) else
 if((f 0).getD 4 0).toNat≤1∧f 0=mark ((f 0).getD 4 0).toNat (val (((f 0).take 13).drop 5)) then
  (cut (A8.text f (CS log size ((f 0).getD 4 0).toNat) size)).bind fun p=>(read p.1).map fun m=>(((f 0).getD 4 0).toNat,val (((f 0).take 13).drop 5),m)
 else none
def PY:List (List T)→Option (List (List Am))
 |[]=>some []
 |g :: G=>(ungroup g).bind fun c=>(PY G).map (c :: ·)
def OL(m:M)(cs:List (List Am)):M:=cs.foldl made m
theorem aAB(G:List (List T))(g:List T):PY (G++[g])=(PY G).bind fun cs=>(ungroup g).map fun c=>cs++[c]:=by
 induction G with
 |nil=>cases h:ungroup g<;>simp[PY,h]
 |cons x G ih=>
  rw[Hf];simp only[PY,ih];cases ungroup x with
  |none=>rfl
  |some a=>
   cases PY G with
   |none=>rfl
   |some b=>
    cases ungroup g with
    |none=>rfl
    |some c=>rfl
theorem akz(m:M)(cs:List (List Am))(c:List Am):OL m (cs++[c])=made (OL m cs) c:=by unfold OL;rw[List.foldl_append];rfl
theorem ad5:∀ (n:Nat) (l:List T) (cs:List Am),l.length≤n→ungroup l=some cs→∀ c∈cs,c.may=true:=by
 intro n
 induction n with
 |zero=>
  intro l cs hn h c hc;obtain rfl:l=[]:=List.eq_nil_of_length_eq_zero (by omega);simp only[ungroup,Ci] at h;subst h;simp at hc
 |succ n ih=>
  intro l cs hn h
  match l,h with
  |[],h=>
   simp only[ungroup,Ci] at h;subst h;intro c hc;simp at hc
  |[_],h=>simp[ungroup] at h
  |[] :: _ :: _,h=>simp[ungroup] at h
  |(b :: k) :: d :: l,h=>
   simp only[ungroup] at h;split at h
   ·rename_i hm
    obtain⟨ds,hd,rfl⟩:=Sc.1 h;intro c hc;rcases BZ.1 hc with rfl|hc
    ·exact hm.2
    ·exact ih l ds (by simp at hn;omega) hd c hc
   ·cases h
def eB(D:A8):Option St×A8×Int:=
 if D.n < 8 then(none,D,2) else if D.down=true then(none,D,40) else
 match N9 D.now (lg D.n) (sz D.n) with
 |none=>(none,D,50)
 |some (a,num,m)=>match Jt (A8.text D.now 1 (lg D.n)) (lg D.n) with
  |none=>(none,D,50)
  |some (g,u,G)=>if 0 < num∧g < num -1 then(none,D,50) else
   match PY G with
   |none=>(none,D,50)
   |some cs=>if g < num then
     (if(DR D ⟨1,lg D.n,g,u,G,0⟩).2.2=0 then(some ⟨lg D.n,sz D.n,a,m,(DR D ⟨1,lg D.n,g,u,G,0⟩).2.1,0⟩,(DR D ⟨1,lg D.n,g,u,G,0⟩).1,0)
      else(none,(DR D ⟨1,lg D.n,g,u,G,0⟩).1,(DR D ⟨1,lg D.n,g,u,G,0⟩).2.2))
    else(some ⟨lg D.n,sz D.n,a,OL m cs,⟨1,lg D.n,g,u,G,0⟩,0⟩,D,0)
def Qn(m:M):T:=pad (le 4 (bytes m).length++bytes m)
def I1(F:St)(m:M):List (A8→A8×Int):=
 [fun D=>D.write ((CS F.log F.size (1 -F.AL):Nat):Int) (Qn m),A8.flush,fun D=>D.write ((0:Nat):Int) (mark (1 -F.AL) ((F.w.gen+1) % 18446744073709551616)),A8.flush]
def OJ(D:A8)(F:St)(m:M):A8×St×Int:=
 if(Bt (I1 F m) D).2=0 then
  if(DR (Bt (I1 F m) D).1 F.w).2.2=0 then((DR (Bt (I1 F m) D).1 F.w).1,{ F with AL:=1 -F.AL,m:=m,w:=(DR (Bt (I1 F m) D).1 F.w).2.1 },0)
  else((DR (Bt (I1 F m) D).1 F.w).1,{ F with AL:=1 -F.AL,w:=(DR (Bt (I1 F m) D).1 F.w).2.1,fault:=(DR (Bt (I1 F m) D).1 F.w).2.2 },(DR (Bt (I1 F m) D).1 F.w).2.2)
 else((Bt (I1 F m) D).1,{ F with AL:=1 -F.AL,fault:=(Bt (I1 F m) D).2 },(Bt (I1 F m) D).2)
def St.room(F:St):Nat:=F.size*64 -4
def St.fits(F:St)(l:List T):Bool:=match Hu l with|none=>false|some s=>decide (s.length / 64≤F.w.n -1 -F.w.used)
def JD(D:A8)(F:St)(l:List Am):A8×St×Int:=
 if F.fault≠0 then(D,F,F.fault) else if l.all Am.may=false then(D,F,2) else
 if F.room < used (made F.m l) then(D,F,4) else
 if F.fits (group l)=true then
  if(Dw D F.w (group l)).2.2=0 then((Dw D F.w (group l)).1,{ F with m:=made F.m l,w:=(Dw D F.w (group l)).2.1 },0)
  else((Dw D F.w (group l)).1,{ F with w:=(Dw D F.w (group l)).2.1,fault:=(Dw D F.w (group l)).2.2 },(Dw D F.w (group l)).2.2)
 else OJ D F (made F.m l)
structure Calm(D:A8)(F:St):Prop where
 disk:D.Calm
 n8:8≤D.n
 log:F.log=lg D.n
 size:F.size=sz D.n
 AL:F.AL≤1
 TI:F.w.from_=1
 wn:F.w.n=F.log
 DZ:logAt D.base F.w
 wf:F.w.fault=0
 fault:F.fault=0
 good:Good F.m
 up:Up F.m
 room:used F.m≤F.room
 load:∃ num A cs,N9 D.base F.log F.size=some (F.AL,num,A)∧num≤F.w.gen∧PY F.w.groups=some cs∧F.m=OL A cs
def nY(D:A8)(F:St)(D':A8):Prop:=eB D=(some F,D',0)∧Calm D' F∧D'.n=D.n
theorem Calm.opens{D:A8}{F:St}(h:Calm D F):nY D F D:=by
 refine⟨?_,h,rfl⟩;obtain⟨num,A,cs,h1,h2,h3,h4⟩:=h.load;have hw:=h.DZ;unfold logAt at hw;rw[h.TI,h.wn,h.log] at hw;rw[h.log,h.size] at h1;unfold eB;rw[Aa (by have:=h.n8;omega),Aa (by simp[h.disk.up]),h.disk.now,h1];simp only;rw[hw];simp only;rw[Aa (by omega),h3];simp only;rw[Aa (by omega),←h4];have e:(⟨1,lg D.n,F.w.gen,F.w.used,F.w.groups,0⟩:Bz)=F.w:=by
  have a1:=h.TI;have a2:=h.wn;have a3:=h.wf;have a4:=h.log;cases hF:F.w;rw[hF] at a1 a2 a3;simp only at a1 a2 a3;subst a1 a3;rw[a2,a4]
 rw[e];have a1:=h.log;have a2:=h.size;have a3:=h.fault;cases F;simp only at a1 a2 a3;subst a1 a2 a3;rfl
theorem akp{f g:Nat→T}{log size a num:Nat}{A:M}(h:N9 f log size=some (a,num,A))(h0:g 0=f 0)(h1:∀ j,CS log size a≤j→j < CS log size a+size→g j=f j):N9 g log size=some (a,num,A):=by
 unfold N9 at*;rw[h0];by_cases h2:f 0=pad [0]
 ·rw[Ac h2] at h ⊢;exact h
 ·rw[Aa h2] at h ⊢;by_cases h3:((f 0).getD 4 0).toNat≤1∧f 0=mark ((f 0).getD 4 0).toNat (val (((f 0).take 13).drop 5))
  ·rw[Ac h3] at h;have ha:((f 0).getD 4 0).toNat=a:=by
    cases hc:cut (A8.text f (CS log size ((f 0).getD 4 0).toNat) size) with
    |none=>rw[hc] at h;cases h
    |some p=>
     rw[hc] at h;simp only[CF] at h;obtain⟨m,_,e⟩:=Sc.1 h;simp only[Mx] at e;exact e.1
   rw[Ac h3,ha,A8.PX (g:=f) _ _ (fun i b c=>h1 i b (by omega))];rw[ha] at h;exact h
  ·rw[Aa h3] at h;cases h
theorem Calm.near{D E:A8}{F F':St}(h:Calm D F)(hE:E.Calm)(hn:E.n=D.n)(hl:logAt E.base F'.w)(e:F'={ F with w:=F'.w })(e1:F'.w.from_=1)(e2:F'.w.n=F.w.n)(e3:F'.w.fault=0)(hg:F.w.gen≤F'.w.gen)(hG:F'.w.groups=F.w.groups)
  (hb:∀ j,(j=0∨CS F.log F.size F.AL≤j∧j < CS F.log F.size F.AL+F.size)→E.base j=D.base j):Calm E F':=by
 obtain⟨num,A,cs,h1,h2,h3,h4⟩:=h.load;have f1:F'.log=F.log:=by rw[e]
 have f2:F'.size=F.size:=by rw[e]
 have f3:F'.AL=F.AL:=by rw[e]
 have f4:F'.m=F.m:=by rw[e]
 have f5:F'.fault=F.fault:=by rw[e]
 refine⟨hE,by rw[hn];exact h.n8,by rw[f1,hn];exact h.log,by rw[f2,hn];exact h.size,by rw[f3];exact h.AL,e1,by rw[e2,f1];exact h.wn,hl,e3,by rw[f5];exact h.fault,by rw[f4];exact h.good,by rw[f4];exact h.up,by unfold St.room;rw[f4,f2];exact h.room,num,A,cs,?_,by omega,by rw[hG];exact h3,by rw[f4];exact h4⟩;rw[f1,f2,f3];exact akp h1 (hb 0 (.inl rfl)) (fun j a b=>hb j (.inr ⟨a,b⟩))
theorem axJ:pad [0]=List.replicate 64 0:=rfl
theorem Calm.new{n:Nat}(h8:8≤n)(hn:n≤16384):Calm (A8.new n) ⟨lg n,sz n,0,[],⟨1,lg n,0,0,[],0⟩,0⟩:=by
 obtain⟨h1,h2,h3⟩:=ZJ h8;refine⟨⟨A8.BX.new (by omega) hn,rfl,rfl⟩,h8,rfl,rfl,AZ _,rfl,rfl,?_,rfl,rfl,fun p hp=>by simp at hp,Up.nil,by unfold used St.room;simp;omega,0,[],[],?_,Ae _,rfl,rfl⟩
 ·show Jt (A8.text (fun _=>Ng) 1 (lg n)) (lg n)=some (0,0,[])
  rw[A8.anc];unfold Jt;have e:(List.replicate (64*lg n) (0:UInt8)).take 64=pad [0]:=by
   rw[List.take_replicate,Jc (by omega)];rfl
  rw[e,Ac rfl]
 ·show N9 (fun _=>Ng) _ _=_
  unfold N9;exact Ac rfl
theorem ZL(a num:Nat):∃ z,mark a num=[70,73,76,49]++([UInt8.ofNat a]++(le 8 num++z)):=by
 unfold mark pad A9.Fv;simp only[Dy];exact⟨_,rfl⟩
theorem akD(a num:Nat)(ha:a≤1):(mark a num).getD 4 0=UInt8.ofNat a∧((mark a num).getD 4 0).toNat=a:=by
 obtain⟨z,e⟩:=ZL a num;have e1:(mark a num).getD 4 0=UInt8.ofNat a:=by rw[e];rfl
 exact⟨e1,by rw[e1,Yb,Nat.mod_eq_of_lt (by omega)]⟩
theorem akE(a num:Nat)(hn:num < 18446744073709551616):val (((mark a num).take 13).drop 5)=num:=by
 obtain⟨z,e⟩:=ZL a num;have e1:((mark a num).take 13).drop 5=le 8 num:=by
  rw[e,←Dy,List.drop_take,Mt (show([70,73,76,49]++[UInt8.ofNat a]).length=5 from rfl),IP (by rw[A9.BV])]
 rw[e1];exact Yf 8 _ (by omega)
theorem sM(a num:Nat):mark a num≠pad [0]:=fun h=>by
 obtain⟨z,e⟩:=ZL a num;rw[e,axJ] at h;have:=congrArg (fun l=>l.head?) h;simp at this
theorem awu{f:Nat→T}{log size a num:Nat}{m:M}{R:T}(ha:a≤1)(hn:num < 18446744073709551616)(hu:Up m)(hg:Good m)(hb:used m < 4294967296)(h0:f 0=mark a num)(h1:A8.text f (CS log size a) size=le 4 (bytes m).length++(bytes m++R)):N9 f log size=some (a,num,m):=by
 unfold N9;rw[h0,Aa (sM a num),(akD a num ha).2,akE a num hn,Ac ⟨ha,rfl⟩,h1,yR _ _ (by rw[yC];exact hb)];simp only[CF];rw[ayy hu hg (by have:=QV m;omega)];rfl
theorem aeY(m:M):(Qn m).length=(4+used m+63) / 64*64:=by
 unfold Qn;rw[RN,Az,A9.BV,yC]
theorem apN(m:M):∃ z,Qn m=le 4 (bytes m).length++(bytes m++z):=by
 unfold Qn pad;exact⟨_,by rw[Dy]⟩
structure adx(D:A8)(F:St)(l:List Am)(r:A8×St×Int):Prop where
 n:r.1.n=D.n
 fine:r.1.BX
 same:r.2.1.log=F.log∧r.2.1.size=F.size
 out:(r.2.2=0∧Calm r.1 r.2.1∧r.2.1.m=made F.m l∧r.2.1.w.gen≤F.w.gen+1∧(D.left= -1→r.1.left= -1))∨
  (r.2.2=40∧D.left≠ -1∧r.2.1.fault=40∧r.2.1.m=F.m∧r.1.down=true∧∀ keep,∃ F' D',nY (r.1.NC keep) F' D'∧D'.left= -1∧F'.w.gen≤F.w.gen+1∧(F'.m=F.m∨F'.m=made F.m l))
theorem oG{D:A8}(h:D.BX)(keep:List UInt8):(D.NC keep).Calm:=⟨h.NC keep,rfl,rfl⟩
theorem awg{D:A8}{F:St}(h:Calm D F)(aim:F.w.gen < 9223372036854775808){m:M}(hu:Up m)(hg:Good m)(hr:used m≤F.room){l:List Am}(hm:m=made F.m l):adx D F l (OJ D F m):=by
 obtain⟨g1,g2,g3⟩:=ZJ h.n8;have jT:=h.log;have JJ:=h.size;have hF:=h.disk.fine;have Gm:=hF.n2;have hl:=h.DZ;have hwn:=h.wn;have hwf:=h.TI;have jr:=h.AL;unfold St.room at hr;have hA:(1 -F.AL)≤1:=by omega
 have qz:=aeY m;obtain⟨k,hk⟩:∃ k,(Qn m).length=64*k:=⟨(4+used m+63) / 64,by omega⟩;have K9:k≤F.size:=by omega
 have atU:CS F.log F.size (1 -F.AL)+F.size≤D.n∧1+F.log≤CS F.log F.size (1 -F.AL)∧(CS F.log F.size F.AL+F.size≤CS F.log F.size (1 -F.AL)∨CS F.log F.size (1 -F.AL)+F.size≤CS F.log F.size F.AL):=by
  unfold CS;rcases Nat.lt_or_ge F.AL 1 with e|e
  ·obtain e0:F.AL=0:=(by omega);rw[e0];omega
  ·obtain e0:F.AL=1:=(by omega);rw[e0];omega
 obtain⟨b1,b2,b3⟩:=atU;have Jl:(F.w.gen+1) % 18446744073709551616=F.w.gen+1:=Nat.mod_eq_of_lt (by omega);have FX:=NY (1 -F.AL) (F.w.gen+1);have aae:I1 F m=[fun D=>D.write ((CS F.log F.size (1 -F.AL):Nat):Int) (Qn m),A8.flush]++[fun D=>D.write ((0:Nat):Int) (mark (1 -F.AL) (F.w.gen+1)),A8.flush]:=by unfold I1;rw[Jl];rfl
 have hold:∀ E:A8,E.Calm→E.n=D.n→(∀ j,j < CS F.log F.size (1 -F.AL)∨CS F.log F.size (1 -F.AL)+F.size≤j→E.base j=D.base j)→Calm E F:=fun E hE hn hb=>
  h.near hE hn (abP hl (fun j c d=>hb j (.inl (by omega)))) (by cases F;rfl) h.TI rfl h.wf (Ae _) rfl (fun j hj=>hb j (by rcases hj with rfl|hj;exact .inl (by omega);omega))
 unfold OJ;rw[aae,afR];have w1:=mh h.disk (at_:=CS F.log F.size (1 -F.AL)) (k:=k) (s:=Qn m) hk (by omega);generalize Bt [fun D=>D.write ((CS F.log F.size (1 -F.AL):Nat):Int) (Qn m),A8.flush] D=r1 at*;rcases w1 with⟨e1,c1,n1,q1,l1⟩|⟨e1,l1,f1,d1,n1,q1⟩
 ·rw[Ac e1];have w2:=mh c1 (at_:=0) (k:=1) (s:=mark (1 -F.AL) (F.w.gen+1)) (by omega) (by omega);generalize Bt [fun D=>D.write ((0:Nat):Int) (mark (1 -F.AL) (F.w.gen+1)),A8.flush] r1.1=r2 at*;rcases w2 with⟨e2,c2,n2,q2,l2⟩|⟨e2,l2,f2,d2,n2,q2⟩
  ·rw[Ac e2];have Ad:∀ j,j≠0→(j < CS F.log F.size (1 -F.AL)∨CS F.log F.size (1 -F.AL)+F.size≤j)→r2.1.base j=D.base j:=fun j h0 hj=>by
    rw[q2,QN _ _ _ _ _ (by omega),q1,QN _ _ _ _ _ (by omega)]
   have GU:logAt r2.1.base F.w:=abP hl (fun j c d=>Ad j (by omega) (.inl (by omega)));have w3:=ao0 c2 (L:=F.w) h.wf (by omega) (by omega);obtain⟨z,ez⟩:=apN m;have aiK:∀ E:A8,(∀ j,j < 1∨1+F.log≤j→E.base j=r2.1.base j)→N9 E.base F.log F.size=some (1 -F.AL,F.w.gen+1,m):=fun E hE=>by
    refine awu (R:=z++A8.text D.base (CS F.log F.size (1 -F.AL)+k) (F.size -k)) hA (by omega) hu hg (by omega) ?_ ?_
    ·rw[hE 0 (by omega),q2,abM _ _ _ FX]
    ·obtain⟨q,hq⟩:∃ q,F.size=k+q:=⟨F.size -k,by omega⟩;have e3:A8.text E.base (CS F.log F.size (1 -F.AL)) F.size=A8.text (A8.lay D.base (puts (CS F.log F.size (1 -F.AL)) (Qn m) k)) (CS F.log F.size (1 -F.AL)) F.size:=by
      refine A8.PX _ _ (fun i c d=>?_);rw[hE i (by omega),q2,QN _ _ _ _ _ (by omega),q1]
     rw[e3];generalize CS F.log F.size (1 -F.AL)=B at*;rw[hq,A8.Y9,acT _ _ _ _ hk,A8.PX (g:=D.base) (B+k) q (fun i c d=>QN _ _ _ _ _ (by omega)),ez,show k+q -k=q by omega];simp only[Dy]
   generalize DR r2.1 F.w=r3 at*;have qJ:F.w.Ud=⟨1,F.log,F.w.gen+1,0,[],0⟩:=by
    unfold Bz.Ud;rw[Jl];have a1:=h.TI;have a2:=h.wn;have a3:=h.wf;cases qf:F.w;rw[qf] at a1 a2 a3;simp only at a1 a2 a3 ⊢;subst a1 a2 a3;rfl
   have ahO:∀ E:A8,E.Calm→E.n=D.n→logAt E.base (⟨1,F.log,F.w.gen+1,0,[],0⟩:Bz)→(∀ j,j < 1∨1+F.log≤j→E.base j=r2.1.base j)→Calm E ⟨F.log,F.size,1 -F.AL,m,⟨1,F.log,F.w.gen+1,0,[],0⟩,0⟩:=fun E hE hn hw hb=>
    ⟨hE,by rw[hn];exact h.n8,by rw[hn];exact h.log,by rw[hn];exact h.size,hA,rfl,rfl,hw,rfl,rfl,hg,hu,hr,F.w.gen+1,m,[],aiK E hb,Ae _,rfl,rfl⟩
   rcases w3 with⟨e3,o3,c3,n3,g3,q3,l3⟩|⟨e3,l3,o3,f3,d3,n3,q3⟩
   ·rw[Ac e3];rw[qJ] at o3 g3;refine⟨n3.trans (n2.trans n1),c3.fine,⟨rfl,rfl⟩,.inl ⟨rfl,?_,hm,by rw[o3];exact Ae _,fun e=>l3 (l2 (l1 e))⟩⟩;have:=ahO r3.1 c3 (n3.trans (n2.trans n1)) g3 (fun j hj=>q3 j (by omega));rw[o3];have aib:=h.fault;cases F;simp only at aib;subst aib;exact this
   ·have hne:r3.2.2≠0:=(by rw[e3];decide);rw[Aa hne];refine⟨n3.trans (n2.trans n1),f3,⟨rfl,rfl⟩,.inr ⟨e3,fun e=>l3 (l2 (l1 e)),e3,rfl,d3,fun keep=>?_⟩⟩;have bM:(r3.1.NC keep).n=D.n:=n3.trans (n2.trans n1);have zY:=oG f3 keep;have zZ:=q3 keep;have Xc:(r3.1.NC keep).left= -1:=rfl;generalize r3.1.NC keep=E at*;have hlE:logAt E.base F.w:=abP GU (fun j _ _=>zZ j);have w4:=ao0 zY (L:=F.w) h.wf (by omega) (by omega);rcases w4 with⟨e4,o4,c4,n4,g4,q4,l4⟩|⟨_,l4,_⟩
    ·rw[qJ] at o4 g4;refine⟨_,_,⟨?_,ahO (DR E F.w).1 c4 (n4.trans bM) g4 (fun j hj=>(q4 j (by omega)).trans (zZ j)),n4⟩,l4 Xc,Ae _,.inr hm⟩;have hw:=hlE;unfold logAt at hw;rw[h.TI,h.wn,h.log] at hw;have r9:=aiK E (fun j _=>zZ j);rw[h.log,h.size] at r9;obtain⟨_,_,cs,_,_,DK,_⟩:=h.load;unfold eB;rw[bM,Aa (by have:=h.n8;omega),Aa (by simp[zY.up]),zY.now,r9];simp only;rw[hw];simp only;rw[Aa (by omega),DK];simp only;rw[Ac (by omega)];have e:(⟨1,lg D.n,F.w.gen,F.w.used,F.w.groups,0⟩:Bz)=F.w:=by
      have a1:=h.TI;have a2:=h.wn;have a3:=h.wf;have a4:=h.log;cases hF3:F.w;rw[hF3] at a1 a2 a3;simp only at a1 a2 a3;subst a1 a3;rw[a2,a4]
     rw[e,Ac e4,o4,h.log,h.size]
    ·exact absurd Xc l4
  ·have hne:r2.2≠0:=(by rw[e2];decide);rw[Aa hne];refine⟨n2.trans n1,f2,⟨rfl,rfl⟩,.inr ⟨e2,fun e=>l2 (l1 e),e2,rfl,d2,fun keep=>⟨F,_,(hold _ (oG f2 keep) (n2.trans n1) (fun j hj=>?_)).opens,rfl,by omega,.inl rfl⟩⟩⟩;rw[q2 keep j (.inr (.inr rfl)),q1,QN _ _ _ _ _ (by omega)]
 ·have hne:r1.2≠0:=by rw[e1];decide
  rw[Aa hne,Aa hne];exact⟨n1,f1,⟨rfl,rfl⟩,.inr ⟨e1,l1,e1,rfl,d1,fun keep=>⟨F,_,(hold _ (oG f1 keep) n1 (fun j hj=>q1 keep j (by omega))).opens,rfl,by omega,.inl rfl⟩⟩⟩
theorem afq{D:A8}{F:St}(h:Calm D F)(aim:F.w.gen < 9223372036854775808){l:List Am}(hl:l.all Am.may=true)(hr:used (made F.m l)≤F.room):adx D F l (JD D F l):=by
 have hall:∀ c∈l,c.may=true:=Mr.1 hl;have hu:=h.up.made l;have hg:=h.good.made h.up hall;obtain⟨g1,g2,g3⟩:=ZJ h.n8;have jT:=h.log;have JJ:=h.size;have hwn:=h.wn;have hwf:=h.TI;have jr:=h.AL;have hF:=h.disk.fine;unfold JD;rw[Aa (by simp[h.fault]),Aa (by simp[hl]),Aa (by omega)];by_cases Jk:F.fits (group l)=true
 ·rw[Ac Jk];unfold St.fits at Jk;cases IG:Hu (group l) with
  |none=>rw[IG] at Jk;cases Jk
  |some s=>
   rw[IG] at Jk;have Jk:s.length / 64≤F.w.n -1 -F.w.used:=(by simpa using Jk);have w1:=aBj h.disk h.DZ h.wf (by omega) (by omega) IG (by omega);generalize Dw D F.w (group l)=r1 at*;obtain⟨num,A,cs,i1,i2,i3,i4⟩:=h.load;rcases w1 with⟨e1,o1,c1,n1,a1,q1,l1⟩|⟨e1,l1,o1,f1,d1,n1,q1⟩
   ·rw[Ac e1];refine⟨n1,c1.fine,⟨rfl,rfl⟩,.inl ⟨rfl,?_,rfl,by rw[o1];show F.w.gen≤_;omega,l1⟩⟩;refine⟨c1,by rw[n1];exact h.n8,by show F.log=lg r1.1.n;rw[n1];exact h.log,by show F.size=sz r1.1.n;rw[n1];exact h.size,h.AL,by rw[o1];exact h.TI,by rw[o1];exact h.wn,by rw[o1];exact a1,by rw[o1];exact h.wf,h.fault,hg,hu,hr,num,A,cs++[l],?_,by rw[o1];exact i2,?_,?_⟩
    ·show N9 r1.1.base F.log F.size=some (F.AL,num,A)
     have hb:1+F.log≤CS F.log F.size F.AL:=(by unfold CS;omega);exact akp i1 (q1 0 (by omega)) (fun j b c=>q1 j (by omega))
    ·rw[o1]
     show PY (F.w.groups++[group l])=_
     rw[aAB,i3,ann l hall];rfl
    ·show made F.m l=_
     rw[akz,←i4]
   ·have hne:r1.2.2≠0:=(by rw[e1];decide);rw[Aa hne];refine⟨n1,f1,⟨rfl,rfl⟩,.inr ⟨e1,l1,e1,rfl,d1,fun keep=>⟨F,_,Calm.opens ?_,rfl,by omega,.inl rfl⟩⟩⟩;have hb:1+F.log≤CS F.log F.size F.AL:=(by unfold CS;omega);exact h.near (oG f1 keep) n1 (q1 keep).1 (by cases F;rfl) h.TI rfl h.wf (Ae _) rfl (fun j hj=>(q1 keep).2 j (by omega))
 ·rw[Aa Jk];exact awg h aim hu hg hr rfl
end Af
section
open Go.RowKit Go.Maps
open Af
theorem Y7{kv:List (List UInt8×Value)}(hn:(kv.map (·.1)).Nodup){k:List UInt8}{v:Value}:DW kv k=some v↔(k,v)∈kv:=by
 refine⟨uD,fun hm=>?_⟩
 induction kv with
 |nil=>simp at hm
 |cons p kv ih=>
  simp only[Ce,Ju] at hn;unfold DW;rcases BZ.1 hm with e|hm
  ·subst e;simp
  ·have:¬ p.1=k:=fun e=>hn.1 (by rw[e];exact Hl (f:=(·.1)) hm)
   rw[List.find?_cons_of_neg (by simpa using this)];exact ih hn.2 hm
theorem ZY{kv ZH:List (List UInt8×Value)}(hn:(kv.map (·.1)).Nodup)(h:kv.Perm ZH)(k:List UInt8):DW kv k=DW ZH k:=by
 have hn':(ZH.map (·.1)).Nodup:=(h.map (·.1)).nodup_iff.1 hn;cases h1:DW kv k with
 |none=>
  cases h2:DW ZH k with
  |none=>rfl
  |some v=>
   have:=(Y7 hn).2 (h.mem_iff.2 ((Y7 hn').1 h2));rw[h1] at this;cases this
 |some v=>exact((Y7 hn').2 (h.mem_iff.1 ((Y7 hn).1 h1))).symm
theorem acL{kv ZH:List (List UInt8×Value)}(h:kv.Perm ZH)(k:List UInt8):(J9 k kv).Perm (J9 k ZH):=h.filter _
def Pq(F:M):List (List UInt8×Value):=F.map fun p=>(p.1,.agg #[.string (bs p.2)])
theorem acM(F:M)(k:List UInt8):DW (Pq F) k=(Af.get F k).map fun s=>.agg #[.string (bs s)]:=by
 induction F with
 |nil=>rfl
 |cons p F ih=>
  unfold DW Af.get Pq;rw[Ce];by_cases h:p.1=k
  ·subst h;simp
  ·rw[List.find?_cons_of_neg (by simpa using h),List.find?_cons_of_neg (by simpa using h)];exact ih
theorem amG(F:M)(k:List UInt8):J9 k (Pq F)=Pq (del k F):=by
 unfold J9 Pq del;rw[List.filter_map];rfl
def CG(w:World)(m:Nat)(F:M):Prop:=Up F∧∃ kv:List (List UInt8×Value),kv.Perm (Pq F)∧FU prog 9 w m kv
theorem aAj:(prog.info? 109).map (fun i=>(i.zero,i.size))=some (some (.agg #[.string ByteArray.empty]),1):=by kernel_rfl
theorem ane(w:World):(zeroValue 109).run prog w=.ok (.agg #[.string ByteArray.empty]) w:=(zero_of_info aAj).1 w
section
variable {w w':World}{m:Nat}{F:M}
theorem CG.lt(h:CG w m F):m < w.heap.size:=h.2.choose_spec.2.lt
theorem CG.kept(h:CG w m F)(e:w'.heap[m]?=w.heap[m]?):CG w' m F:=by
 obtain⟨h1,kv,h2,h3⟩:=h;exact⟨h1,kv,h2,h3.kept e⟩
theorem CG.upd{P:Nat→Prop}(h:CG w m F)(hu:A7 P w w')(hP:¬ P m):CG w' m F:=h.kept (hu.block m h.lt hP)
theorem CG.below(h:CG w m F)(hb:Bw w w'):CG w' m F:=h.kept (hb.block m h.lt)
theorem CG.made(w:World):CG (w.alloc (.map #[] 0)) w.heap.size []:=⟨Up.nil,[],List.Perm.nil,FU.made w⟩
theorem CG.is(h:CG w m F):∃ es clock,w.heap[m]?=some (.map es clock):=by
 obtain⟨_,kv,_,_,D,⟨es,clock,hm,_⟩,_⟩:=h;exact⟨es,clock,hm⟩
theorem CG.Dp(h:CG w m F){t:TypeId}:¬ Bf w m t:=by
 obtain⟨es,clock,hm⟩:=h.is;rintro⟨cs,fr,hb⟩;rw[hm] at hb;injection hb with hb
 cases hb
theorem CG.nodup{kv:List (List UInt8×Value)}(h2:kv.Perm (Pq F))(h1:Up F):(kv.map (·.1)).Nodup:=by
 rw[(h2.map (·.1)).nodup_iff];unfold Pq;rw[Ko];exact h1.nodup
theorem CG.lookup(h:CG w m F)(k:List UInt8)(hk:k.length≤maxLen):
  (Instr.lookup 113 (.map (some m)) (.string (bs k)) false).run prog w=.ok (.agg #[.string (bs ((Af.get F k).getD []))]) w:=by
 obtain⟨h1,kv,h2,h3⟩:=h;rw[h3.lookup underlying9 underlying113 (ane w) k hk,ZY (CG.nodup h2 h1) h2,acM];cases Af.get F k<;>rfl
theorem CG.ZK(h:CG w m F)(k:List UInt8)(hk:k.length≤maxLen):
  (Instr.lookup 113 (.map (some m)) (.string (bs k)) true).run prog w=.ok (.tuple #[.agg #[.string (bs ((Af.get F k).getD []))],.bool (Af.get F k).isSome]) w:=by
 obtain⟨h1,kv,h2,h3⟩:=h;rw[h3.ZK underlying9 underlying113 (ane w) k hk,ZY (CG.nodup h2 h1) h2,acM];cases Af.get F k<;>rfl
theorem CG.update(h:CG w m F)(k v:List UInt8)(hk:k.length≤maxLen)(J2:F.length < maxLen):
  ∃ w',(Instr.mapUpdate 113 (.map (some m)) (.string (bs k)) (.agg #[.string (bs v)])).run prog w=.ok () w'∧CG w' m (put k v F)∧w.grownBy w' (some m):=by
 obtain⟨h1,kv,h2,h3⟩:=h;obtain⟨w',hrun,h4,h5⟩:=h3.update underlying9 underlying113 k hk (.agg #[.string (bs v)]) (by rw[h2.length_eq];unfold Pq;rw[Ca];exact J2);refine⟨w',hrun,⟨h1.put k v,_,?_,h4⟩,h5⟩;unfold QS;refine(List.Perm.cons _ ((acL h2 k).trans (by rw[amG]))).trans ?_;exact((ZT h1 k v).symm.map fun p=>(p.1,Value.agg #[.string (bs p.2)]))
theorem CG.delete(h:CG w m F)(k:List UInt8)(hk:k.length≤maxLen)(ty:TypeId):
  ∃ w',(Builtin.delete_ #[113,9] ty #[.map (some m),.string (bs k)]).run prog w=.ok (.tuple #[]) w'∧CG w' m (del k F)∧w.grownBy w' (some m):=by
 obtain⟨h1,kv,h2,h3⟩:=h;obtain⟨w',hrun,h4,h5⟩:=h3.delete underlying9 underlying113 k hk ty;exact⟨w',hrun,⟨h1.del k,_,(acL h2 k).trans (by rw[amG]),h4⟩,h5⟩
theorem CG.len(h:CG w m F)(ty:TypeId):(Builtin.len_ #[113] ty #[.map (some m)]).run prog w=.ok (.int .i64 (F.length:Int)) w:=by
 obtain⟨h1,kv,h2,_,D,hown,_,BL,_⟩:=h;rw[hown.len underlying113 ty,BL,h2.length_eq];unfold Pq;rw[Ca]
end
def arH(F:St)(b m x:Nat):Array Value:=#[.pointer (some ⟨b,0,none⟩),.int .i64 (F.log:Int),.int .i64 (F.size:Int),.int .i64 (F.AL:Int),.map (some m),.pointer (some ⟨x,0,none⟩),.int .i64 F.fault]
structure Dg(w:World)(y b m x:Nat)(gv:Value)(F:St):Prop where
 struct:w.heap[y]?=some (.cells (arH F b m x) 116)
 map:CG w m F.m
 DZ:Cj w x b gv F.w
 fits:F.log≤16384∧F.size≤16384∧1≤F.size∧F.AL≤1
def Vy(y m x:Nat)(gv:Value)(k:Nat):Prop:=k=y∨k=m∨BP x gv k
section
variable {w w':World}{y b m x:Nat}{gv:Value}{F:St}
theorem Dg.cells(h:Dg w y b m x gv F):
  w.cell? ⟨y,0,none⟩=some (.pointer (some ⟨b,0,none⟩))∧w.cell? ⟨y,1,none⟩=some (.int .i64 (F.log:Int))∧w.cell? ⟨y,2,none⟩=some (.int .i64 (F.size:Int))∧w.cell? ⟨y,3,none⟩=some (.int .i64 (F.AL:Int))∧
  w.cell? ⟨y,4,none⟩=some (.map (some m))∧w.cell? ⟨y,5,none⟩=some (.pointer (some ⟨x,0,none⟩))∧w.cell? ⟨y,6,none⟩=some (.int .i64 F.fault)∧∀ j,w.frozen? ⟨y,j,none⟩=false:=by
 refine⟨?_,?_,?_,?_,?_,?_,?_,fun j=>Cu w y j _ _ h.struct⟩<;>rw[BF w y _ _ _ _ h.struct]<;>rfl
theorem Dg.lt(h:Dg w y b m x gv F):∀ k,Vy y m x gv k→k < w.heap.size:=by
 rintro k (rfl|rfl|hk)
 ·exact Ao h.struct
 ·exact h.map.lt
 ·exact h.DZ.lt k hk
theorem Dg.blk(h:Dg w y b m x gv F):Bf w y 116:=⟨_,_,h.struct⟩
theorem Cj.kind(h:Cj w x b gv F.w){k:Nat}(hk:BP x gv k):Bf w k 224∨Bf w k 61:=by
 rcases hk with rfl|hk
 ·exact .inl ⟨_,_,h.struct⟩
 ·obtain⟨cs,h1,_⟩:=h.groups;exact .inr (CB h1 hk)
theorem Dg.XY(h:Dg w y b m x gv F):y≠m∧¬ BP x gv y∧¬ BP x gv m:=
 ⟨fun e=>h.map.Dp (e▸h.blk),fun hk=>by
  rcases h.DZ.kind hk with e|e
  ·exact Bf.ne h.blk e (by decide) rfl
  ·exact Bf.ne h.blk e (by decide) rfl,fun hk=>by
  rcases h.DZ.kind hk with e|e<;>exact h.map.Dp e⟩
theorem Dg.upd{P:Nat→Prop}(h:Dg w y b m x gv F)(hu:A7 P w w')(hP:∀ k,Bf w k 9→¬ P k)(hG:∀ k,Vy y m x gv k→¬ P k):Dg w' y b m x gv F:=
 ⟨(hu.block y (Ao h.struct) (hG y (.inl rfl))).trans h.struct,h.map.upd hu (hG m (.inr (.inl rfl))),h.DZ.upd hu hP (fun k hk=>hG k (.inr (.inr hk))),h.fits⟩
theorem Dg.below(h:Dg w y b m x gv F)(hb:Bw w w'):Dg w' y b m x gv F:=h.upd (ub hb) (fun _ _ f=>f) (fun _ _ f=>f)
end
theorem BI.Dp{w:World}{b:Nat}{D:A8}{fp:Nat→Prop}(h:BI w b D fp)(k:Nat)(hk:fp k){t:TypeId}(h1:t≠144)(h2:t≠242):¬ Bf w k t:=by
 obtain⟨m,lv,hI,rfl⟩:=h;rcases hk with rfl|rfl|hk
 ·exact fun hb=>Bf.ne hb ⟨_,_,hI.struct⟩ h1 rfl
 ·obtain⟨kv,⟨_,D',⟨es,clock,hm,_⟩,_⟩,_⟩:=hI.base;rintro⟨cs,fr,hb⟩;rw[hm] at hb;injection hb with hb
  cases hb
 ·exact fun hb=>Bf.ne hb (CB hI.loose hk) h2 rfl
end
section
open Go.RowKit Go.Maps Go.Sort
open Af
theorem pq(name data:T)(gone:Bool)(w:World)(hn:name.length≤maxLen)(hd:data.length≤maxLen):
  Calls prog 54 #[.agg #[.string (bs name),.string (bs data),.bool gone]] w fun e w'=>e=.returned (.bool (Am.may ⟨name,data,gone⟩))∧Bw w w':=by
 have hb:=(Ah w.heap.size w).alloc (Ae _) (.cells #[.string (bs name),.string (bs data),.bool gone] 57);have HB:=Hi hb;clear hb;unfold maxLen at hn hd;by_cases h1:name=[]
 ·have hv:Hid (Am.may ⟨name,data,gone⟩=false):=Hi (by unfold Am.may Fq;simp[h1]);rw[hv.out];have hne:bs name=ByteArray.empty:=by rw[h1];rfl
  subst h1
  go_in
  go_wp2;go_ret;exact⟨rfl,HB⟩
 ·have he:name.isEmpty=false:=by simpa using h1
  by_cases h2:name.length≤32
  ·have j6:(name.length:Int)≤32:=(by omega);by_cases h3:data.length≤65535
   ·have h3i:(data.length:Int)≤65535:=(by omega);cases gone with
    |false=>
     have hv:Hid (Am.may ⟨name,data,false⟩=true):=Hi (by unfold Am.may Fq;simp[h1,h2,h3]);clear h1;rw[hv.out]
     go_in
     go_wp2;go_ret;exact⟨rfl,HB⟩
    |true=>
     by_cases h4:data=[]
     ·have hv:Hid (Am.may ⟨name,data,true⟩=true):=Hi (by unfold Am.may Fq;simp[h1,h2,h4]);have hf:data.isEmpty=true:=(by simpa using h4);clear h1 h4;rw[hv.out]
      go_in
      go_wp2;go_ret;exact⟨rfl,HB⟩
     ·have hv:Hid (Am.may ⟨name,data,true⟩=false):=Hi (by unfold Am.may Fq;simp[h1,h2,h3,h4]);have hf:data.isEmpty=false:=(by simpa using h4);clear h1 h4;rw[hv.out]
      go_in
      go_wp2;go_ret;exact⟨rfl,HB⟩
   ·have hv:Hid (Am.may ⟨name,data,gone⟩=false):=Hi (by unfold Am.may Fq;simp[h1,h2,h3]);clear h1;have h3i:¬ (data.length:Int)≤65535:=(by omega);rw[hv.out]
    go_in
    go_wp2;go_ret;exact⟨rfl,HB⟩
  ·have hv:Hid (Am.may ⟨name,data,gone⟩=false):=Hi (by unfold Am.may Fq;simp[h1,h2]);clear h1;have j6:¬ (name.length:Int)≤32:=(by omega);rw[hv.out]
   go_in
   go_wp2;go_ret;exact⟨rfl,HB⟩
theorem pz(n:Nat)(w:World)(hn:n < 4294967296):
  Calls prog 140 #[.int .i64 (n:Int)] w fun e w'=>e=.returned (.string (bs (A9.le 4 n)))∧Bw w w':=by
 go_in
 go_wp2_with fail;refine(ZR n 4 _ hn (by decide) (by decide)).mono ?_;rintro e w1⟨rfl,hb⟩;go_wp2;go_ret;exact⟨rfl,hb⟩
theorem pF(s:List UInt8)(w:World)(hs:s.length≤100000000):
  Calls prog 139 #[.string (bs s)] w fun e w'=>e=.returned (.string (bs (Aq.pad s)))∧Bw w w':=by
 obtain⟨N,hN⟩:∃ N:Nat,N=(s.length+63) / 64*64:=⟨_,rfl⟩;have hq:((s.length:Int)+64 -1) / 64*64=(N:Int):=by omega
 obtain⟨m,hm⟩:∃ m:Nat,m=N -s.length:=⟨_,rfl⟩;have Kb:(N:Int) -(s.length:Int)=(m:Int):=by omega
 have aaV:Hid (Aq.pad s=s++List.replicate m 0):=Hi (by unfold Aq.pad;rw[←hN,←hm]);have Zo:m≤100:=by omega
 have JH:N≤100000100:=by omega
 obtain⟨C,NS,Ag⟩:=ank w m (by omega);have au1:=Y3 prog (w.alloc (.cells C 5)) 54 5 9 underlying54 underlying5 underlying9 w.heap.size 0 m m (List.replicate m 0) List.length_replicate (fun i h=>by rw[GJ];exact Ag.cell i h);clear Ag hN hm
 go_in
 go_wp2;go_ret;rw[aaV.out];exact⟨rfl,(Ah _ _).alloc (Ae _) _⟩
theorem ag4{s:List UInt8}(h:cut s=none)(w:World)(hs:s.length≤1000000000):
  Calls prog 161 #[.string (bs s)] w fun e w'=>e=.returned (.tuple #[.string ByteArray.empty,.string ByteArray.empty,.bool false])∧w=w':=by
 by_cases h0:s.length < 4
 ·clear h
  go_in
  go_wp2;go_ret3;exact⟨rfl,rfl⟩
 ·have Md:∀ W,(Instr.slice 9 (.string (bs s)) none (some (.int .i64 4)) none).run prog W=.ok (.string (bs (s.take 4))) W:=fun W=>O1 prog W 9 underlying9 s 4 (by omega)
  have KQ:(s.take 4).length=4:=by rw[Be];omega
  have hv:=A9.Jb (s.take 4);rw[KQ] at hv;have La:=Hi (fun(W:World)=>X9 (s.take 4) W (by omega) (by omega));unfold cut at h;rw[Aa h0] at h;generalize A9.val (s.take 4)=v at*;have XO:¬ v≤s.length -4:=fun e=>by rw[Ac e] at h;cases h
  have abp:v < 4294967296:=hv;have Jr:IntKind.u64.wrap ((s.length:Int) -4)=(s.length:Int) -4:=IntWalk.u64_in _ (by omega);have hvi:(s.length:Int) -4 < (v:Int):=by omega
  clear h KQ hv XO
  go_in
  go_wp2_with fail;refine(La _).mono ?_;rintro e w1⟨rfl,rfl⟩;go_wp2;go_ret3;exact⟨rfl,rfl⟩
theorem oQ{s p q:List UInt8}(h:cut s=some (p,q))(w:World)(hs:s.length≤1000000000):
  Calls prog 161 #[.string (bs s)] w fun e w'=>e=.returned (.tuple #[.string (bs p),.string (bs q),.bool true])∧Bw w w':=by
 have h0:¬ s.length < 4:=by have:=Vw h;omega
 have Md:∀ W,(Instr.slice 9 (.string (bs s)) none (some (.int .i64 4)) none).run prog W=.ok (.string (bs (s.take 4))) W:=fun W=>O1 prog W 9 underlying9 s 4 (by omega)
 have KQ:(s.take 4).length=4:=by rw[Be];omega
 have hv:=A9.Jb (s.take 4);rw[KQ] at hv;have La:=Hi (fun(W:World)=>X9 (s.take 4) W (by omega) (by omega));unfold cut at h;rw[Aa h0] at h;generalize A9.val (s.take 4)=v at*;have XO:v≤s.length -4:=by
  by_cases e:v≤s.length -4
  ·exact e
  ·rw[Aa e] at h;cases h
 rw[Ac XO] at h;simp only[Ci,Mx] at h;obtain⟨rfl,rfl⟩:=h;have abp:v < 4294967296:=hv;have Jr:IntKind.u64.wrap ((s.length:Int) -4)=(s.length:Int) -4:=IntWalk.u64_in _ (by omega);have Kh:IntKind.u64.wrap (4+(v:Int))=4+(v:Int):=IntWalk.u64_in _ (by omega);have hvi:(v:Int)≤(s.length:Int) -4:=by omega
 have hcu:∀ W,(Instr.slice 9 (.string (bs s)) (some (.int .i64 4)) (some (.int .u64 (4+(v:Int)))) none).run prog W=.ok (.string (bs ((s.take (4+v)).drop 4))) W:=fun W=>by
  have:=ams prog W 9 underlying9 s 4 (4+v) (by omega) (by omega);rw[Int.natCast_add] at this;exact this
 have Xn:∀ W,(Instr.slice 9 (.string (bs s)) (some (.int .u64 (4+(v:Int)))) none none).run prog W=.ok (.string (bs (s.drop (4+v)))) W:=fun W=>by
  have g2:(4:Int)+(v:Int)≤(s.length:Int):=by omega
  have g3:((4:Int)+(v:Int)).toNat=4+v:=by omega
  have g4:(0:Int)≤4+(v:Int):=by omega
  simp[Instr.slice,GK underlying9,Instr.sliceBounds,run_sliceBound,go_sem,g2,g3,g4]
 clear KQ hv XO
 go_in
 go_wp2_with fail;refine(La _).mono ?_;rintro e w1⟨rfl,rfl⟩;go_wp2;go_region;go_wp2;go_ret3;exact⟨rfl,(Ah _ _).drew⟩
theorem agl(AL num:Nat)(w:World)(ha:AL≤1)(hn:num < 18446744073709551616):
  Calls prog 142 #[.int .i64 (AL:Int),.int .u64 (num:Int)] w fun e w'=>e=.returned (.string (bs (Af.mark AL num)))∧Bw w w':=by
 have HN:=Hi hn;have aic:({ data:=#[70,73,76,49] }:ByteArray)=bs [70,73,76,49]:=rfl;clear hn
 go_in
 go_wp2_with fail;refine(ZR num 8 _ (by have:=HN.out;exact this) (by decide) (by decide)).mono ?_;rintro e w1⟨rfl,Ai⟩;have HB1:=Hi Ai;clear Ai;have Un:=acE prog w1 54 5 9 5 underlying54 underlying5 underlying9 (AL:Int) (UInt8.ofNat AL) (by rw[Yb,Nat.mod_eq_of_lt (by omega)]);go_wp2_with fail;refine(eZ (70 :: 73 :: 76 :: 49 :: UInt8.ofNat AL :: A9.le 8 num) _ (by simp[A9.BV])).mono ?_;rintro e w3⟨rfl,Aw⟩;have AA:=Hi ((HB1.alloc HB1.size _).trans (Aw.mono (by have:=HB1.size;rw[Ar];omega)));clear Aw Un;go_wp2_with fail;refine(pF (A9.Fv (70 :: 73 :: 76 :: 49 :: UInt8.ofNat AL :: A9.le 8 num)) _ (by rw[A9.RU];simp[A9.BV])).mono ?_;rintro e w4⟨rfl,AB⟩;have AU:=bH AA AB;clear AB;go_wp2;go_ret;exact⟨rfl,AU⟩
theorem ag0(v:Value)(log size AL:Nat)(w:World)(h1:log≤16384)(h2:size≤16384)(h3:AL≤1):
  Calls prog 138 #[.agg #[v,.int .i64 (log:Int),.int .i64 (size:Int),.int .i64 (AL:Int)],.int .i64 (AL:Int)] w fun e w'=>e=.returned (.int .i64 ((CS log size AL:Nat):Int))∧Bw w w':=by
 have hb:=(Ah w.heap.size w).alloc (Ae _) (.cells #[v,.int .i64 (log:Int),.int .i64 (size:Int),.int .i64 (AL:Int)] 112);have HB:=Hi hb;clear hb;have hp:(AL:Int)*(size:Int)≤16384∧0≤(AL:Int)*(size:Int):=by
  rcases Nat.lt_or_ge AL 1 with e|e
  ·obtain rfl:AL=0:=(by omega);omega
  ·obtain rfl:AL=1:=(by omega);omega
 obtain⟨EC,Jp⟩:=hp;have he:Hid (((CS log size AL:Nat):Int)=1+(log:Int)+(AL:Int)*(size:Int)):=Hi (by unfold CS;rw[Int.natCast_add,Int.natCast_add,Int.natCast_mul];rfl);have hm:IntKind.i64.wrap ((AL:Int)*(size:Int))=(AL:Int)*(size:Int):=Eh _ (by omega);have Kb:IntKind.i64.wrap (1+(log:Int)+(AL:Int)*(size:Int))=1+(log:Int)+(AL:Int)*(size:Int):=Eh _ (by omega);rw[he.out]
 go_in
 go_wp2;go_ret;exact⟨rfl,HB⟩
section
variable {w:World}{y b m x:Nat}{gv:Value}{F:St}
theorem arF(h:Dg w y b m x gv F)(k:T)(hk:k.length≤maxLen):
  Calls prog 16 #[.pointer (some ⟨y,0,none⟩),.string (bs k)] w fun e w'=>e=.returned (.tuple #[.string (bs ((Af.get F.m k).getD [])),.bool (Af.get F.m k).isSome])∧Bw w w':=by
 have hl:=h.map.ZK k hk;obtain⟨_,_,_,_,c4,_⟩:=h.cells;clear h hk;generalize Af.get F.m k=r at*;generalize r.isSome=u at*
 go_in
 go_wp2;go_ret2;exact⟨rfl,(Ah _ _).alloc (Ae _) _⟩
theorem ags(h:Dg w y b m x gv F):
  Calls prog 58 #[.pointer (some ⟨y,0,none⟩)] w fun e w'=>e=.returned (.int .i64 (F.room:Int))∧w=w':=by
 obtain⟨_,_,c2,_⟩:=h.cells;obtain⟨_,h2,h3,_⟩:=h.fits;have he:Hid ((F.room:Int)=(F.size:Int)*64 -4):=Hi (by unfold St.room;omega);rw[he.out];clear h;generalize F.size=n at*
 go_in
 go_wp2;go_ret;exact⟨rfl,rfl⟩
end
theorem aqD{F:M}(hu:Up F){ss:List T}(hp:ss.Perm (F.map (·.1))):(ss.map fun k=>8+k.length+((Af.get F k).getD []).length).sum=(F.map cost).sum:=by
 rw[(hp.map _).sum_nat,Ko]
 congr 1
 apply Q3;intro p hp
 show 8+p.1.length+((Af.get F p.1).getD []).length=cost p
 rw[get_mem hu (v:=p.2) hp];rfl
theorem amK(kv:List (List UInt8×Value))(x:List UInt8):x∈kv.map (·.1)↔(DW kv x).isSome=true:=by
 unfold DW;rw[Option.isSome_map,List.find?_isSome,BA];constructor
 ·rintro⟨p,hp,rfl⟩;exact⟨p,hp,by simp⟩
 ·rintro⟨p,hp,h⟩;exact⟨p,hp,by simpa using h⟩
theorem FU.keyed{w:World}{m:Nat}{kv:List (List UInt8×Value)}(h:FU prog 9 w m kv):∃ D:DataW Value,w.ownsMap prog 9 Rw m kv.length D∧Maps.size D=kv.length∧(kv.map (·.1)).Perm (strKeys D):=by
 obtain⟨hn,D,hown,_,BL,hat⟩:=h;refine⟨D,hown,BL,Collected.perm (left:=fun _=>false) ⟨hn,fun x=>?_⟩ hown (string_keyed underlying9) underlying9 (fun _=>rfl)⟩;rw[jv (hat x),amK];simp
theorem aga(F:M):(Pq F).map (·.1)=F.map (·.1):=by unfold Pq;rw[Ko];rfl
def Qp(F:M)(ss:List T):Nat:=(ss.map fun k=>8+k.length+((Af.get F k).getD []).length).sum
theorem arB(F:M)(ss:List T)(k s:T)(h:Af.get F k=some s):Qp F (ss++[k])=Qp F ss+(8+k.length+s.length):=by
 unfold Qp;rw[D6,OQ];simp[h]
theorem arA(F:M)(ss:List T)(h:∀ k∈ss,∃ s,Af.get F k=some s):Qp F ss≤ss.length*used F:=by
 induction ss with
 |nil=>simp[Qp]
 |cons k ss ih=>
  obtain⟨s,hs⟩:=h k Hg;have h1:=ih (fun x hx=>h x (GI _ hx));have h2:=anA (get_some hs);have e:Qp F (k :: ss)=(8+k.length+s.length)+Qp F ss:=by unfold Qp;rw[Ce,Eo,hs];rfl
  unfold cost at h2;rw[e,BN,Nat.succ_mul];simp only at h2;omega
theorem ast{w:World}{m:Nat}{F:M}(h:CG w m F)(hc:used F≤1000000000):
  Calls prog 57 #[.map (some m)] w fun e w'=>e=.returned (.int .i64 (used F:Int))∧Bw w w':=by
 have hlt:=h.lt;obtain⟨hu,kv,Zr,hn,D,hown,ht,BL,hat⟩:=h;have hlen:=QV F;have DX:kv.length=F.length:=by rw[Zr.length_eq];unfold Pq;rw[Ca]
 have HG:=Hi (fun(x:T)=>(ZY hn Zr x).trans (acM F x));have HU:=Hi (show used F=4+(F.map cost).sum from rfl);have FL:=Hi hu;have IQ:=Hi hat;have HP:=Hi Zr;have HN:=Hi hn;have HC:=Hi hc;have Ns:=Hi hlen;have Dz:=Hi BL;have LX:=Hi DX;have Nu:=Hi hlt;have aej:=Hi hown;clear hu Zr hn ht hat hc hlen BL DX hlt
 go_in
 go_wp2_with (first
  |(at_range;refine wpList_range_own _ rfl _ 113 rfl 9 109 (string_keyed underlying9) underlying113 _ m _ _ rfl hown ?_;intro w0 av7 Ze MX)
  |fail)
 go_frame
 clear hown
 go_loopw [3] (fun n wr=>∃ (left:Lit→Bool) (cnt:Nat) (ss:List T),wr.ranges prog 9 Rw m w.heap.size kv.length D left cnt∧Collected D left ss∧ss.length+cnt≤kv.length∧(∀ k∈ss,∃ s,Af.get F k=some s)∧n=.int .i64 ((4+Qp F ss:Nat):Int)∧Bw w wr)
  (fun _ wr=>wr.rangeLeft m w.heap.size)
 case atStart=>exact⟨_,_,[],av7,Collected.start D,by rw[←Dz.out];simp,by simp,rfl,(Ah _ _).grown Ze (Ae _) (fun j hj=>by cases hj)⟩
 case round=>
  obtain⟨left,cnt,ss,rQ,hC,qF,hall,rfl,hb⟩:=hrel;have BJ:=arA F ss hall;have hcb:Qp F ss≤125000000*1000000000:=Ay BJ (Nat.mul_le_mul (by have:=Ns.out;have:=HC.out;have:=LX.out;omega) HC);have Qa:=Hi hC;have Gv:=Hi hall;have HB:=Hi hb;have U2:=Hi rQ;have Sj:=Hi qF;clear BJ hC hall hb qF
  go_wp2_with (first
   |(at_next;refine wpList_next_ranges _ rfl _ rfl 9 (string_keyed underlying9) Rw encStr id (fun key kl hk=>by obtain⟨x,hx,_⟩:=Maps.keyOf_str underlying9 hk;exact⟨x,hx⟩) (fun v _ _=>⟨v,rfl⟩) m w.heap.size kv.length _ _ _ rfl rQ ?_ ?_)
   |fail)
  ·intro bY Me;clear rQ;go_wp2;go_ret;have hp:=Qa.perm aej (string_keyed underlying9) underlying9 Me;have hk:(kv.map (·.1)).Perm (strKeys D):=Collected.perm (left:=fun _=>false) ⟨HN,fun x=>by rw[jv (IQ x),amK];simp⟩ aej (string_keyed underlying9) underlying9 (fun _=>rfl);have K9:ss.Perm (F.map (·.1)):=(hp.trans hk.symm).trans (by rw[←aga];exact HP.map _);have he:Qp F ss=(F.map cost).sum:=aqD FL K9;exact⟨by rw[HU.out,←he];rfl,HB⟩
  ·intro x c kl yd yp w2 cnt2 qX Jn hv hat ajm hlt El Lu Zb;obtain⟨x',ex,rfl,IK⟩:=Maps.keyOf_str underlying9 qX;obtain rfl:x=x':=encStr_inj ex;have Gr:(DataW.held c:DataW Value)=yd:=by injection hv with hv;injection hv
   subst Gr;obtain⟨s,hs,rfl⟩:∃ s,Af.get F x=some s∧c=.agg #[.string (bs s)]:=by
    have h1:=IQ x .nil;rw[hat .nil,HG x] at h1;cases hg:Af.get F x with
    |none=>rw[hg] at h1;cases h1
    |some s=>
     rw[hg] at h1;refine⟨s,rfl,?_⟩;injection h1
   have HS:=Hi hs;have Q9:=Hi (Qa.step Jn hat);have aeq:=Hi (ajm.alloc (.cells #[.string (bs s)] 109));have aea:=Hi hlt;have Ak:=Hi (HB.grown El HB.size (fun j hj=>by cases hj;exact Ae _));have AA:=Hi (Ak.alloc Ak.size (.cells #[.string (bs s)] 109));have CZ:s.length+12+x.length≤used F:=(by have:=anA (get_some hs);unfold cost at this;simp only at this;omega);have Mi:Hid (Qp F (ss++[x])=Qp F ss+(8+x.length+s.length)):=Hi (arB F ss x s hs);have EL:=Hi HC.out;have hxb:x.length≤1000000000:=(by have:=HC.out;omega);have OE:s.length≤1000000000:=(by have:=HC.out;omega);have zm:encStr x=.string (bs x):=rfl
   have Xy:Hid (∀ k∈ss++[x],∃ s,Af.get F k=some s):=Hi (fun k hk=>by
    rcases EG.1 hk with hk|hk
    ·exact Gv k hk
    ·rw[FC] at hk;subst hk;exact⟨s,hs⟩)
   rw[zm] at Zb;clear rQ qX ex hv hat ajm hlt El Lu hs Jn;simp only[zm];clear zm;go_wp2;go_roundw
   case rel=>exact⟨_,cnt2,ss++[x],aeq,Q9,by have:=aea.out;have:=Sj.out;rw[Az,Kn];omega,Xy.out,by rw[Mi.out];go_num,AA⟩
   case measure=>rw[aeq.left_eq,U2.left_eq];exact aea.out
