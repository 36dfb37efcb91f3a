/- FilLaw -/
import Derived.Test.YtmbbhdebddbhoaaGreatQ7
set_option linter.all false
namespace Go.Proofs.YtmbbhdebddbhoaaGreat
namespace Fil
open Crc (le val Du)
open Wal (pad)
abbrev T:=List UInt8
theorem Mk(a:T):¬ a < a:=List.lt_irrefl a
theorem QE{a b c:T}(h:a < b)(k:b < c):a < c:=List.lt_trans h k
theorem WI(a b:T):a < b∨a=b∨b < a:=by
 by_cases h1:a < b
 ·exact .inl h1
 ·by_cases h2:b < a
  ·exact .inr (.inr h2)
  ·exact .inr (.inl (List.le_antisymm (List.not_lt.1 h2) (List.not_lt.1 h1)))
theorem I1{a b:T}(h:a < b):a≠b:=fun e=>Mk b (by rwa[e] at h)
theorem Lp{a b:T}(h:a < b):¬ b < a:=fun k=>Mk _ (QE h k)
abbrev M:=List (T×T)
def Up(F:M):Prop:=F.Pairwise (fun a b=>a.1 < b.1)
def get(F:M)(k:T):Option T:=(F.find? (fun p=>p.1 == k)).map (·.2)
def del(k:T)(F:M):M:=F.filter (fun p=>!(p.1 == k))
def put(k v:T)(F:M):M:=F.filter (fun p=>decide (p.1 < k))++(k,v) :: F.filter (fun p=>decide (k < p.1))
theorem Up.nil:Up []:=List.Pairwise.nil
theorem Up.nodup{F:M}(h:Up F):(F.map (·.1)).Nodup:=by
 rw[List.nodup_iff_pairwise_ne];exact List.pairwise_map.2 (h.imp fun h=>I1 h)
theorem Up.del{F:M}(h:Up F)(k:T):Up (del k F):=h.filter _
theorem Up.put{F:M}(h:Up F)(k v:T):Up (put k v F):=by
 unfold Fil.put;refine List.pairwise_append.2 ⟨h.filter _,Gd.2 ⟨fun b hb=>?_,h.filter _⟩,fun a ha b hb=>?_⟩
 ·simpa using(CU.1 hb).2
 ·have h1:a.1 < k:=by simpa using(CU.1 ha).2
  rcases AZ.1 hb with rfl|hb
  ·exact h1
  ·exact QE h1 (by simpa using(CU.1 hb).2)
theorem filter_none{F:M}{p:T×T→Bool}(h:∀ x∈F,p x=false):F.filter p=[]:=List.filter_eq_nil_iff.2 fun x hx=>by rw[h x hx];simp
theorem filter_all{F:M}{p:T×T→Bool}(h:∀ x∈F,p x=true):F.filter p=F:=List.filter_eq_self.2 h
theorem agU{F:M}(h:Up F)(k:T):del k F=F.filter (fun p=>decide (p.1 < k))++F.filter (fun p=>decide (k < p.1)):=by
 induction F with
 |nil=>rfl
 |cons p F ih=>
  obtain⟨h1,h2⟩:=Gd.1 h;have ih:=ih h2;unfold del at ih ⊢;rcases WI p.1 k with e|e|e
  ·rw[Qn (by simpa using I1 e),Qn (by simpa using e),N9 (by simpa using List.not_lt.1 (Lp e)),ih];rfl
  ·have h3:∀ x∈F,k < x.1:=fun x hx=>e▸h1 x hx
   rw[N9 (by simpa using e),N9 (by rw[e];simp),N9 (by rw[e];simp),ih]
  ·have h3:∀ x∈F,k < x.1:=fun x hx=>QE e (h1 x hx)
   rw[Qn (by simpa using Ne.symm (I1 e)),N9 (by simpa using List.not_lt.1 (Lp e)),Qn (by simpa using e)];have a1:F.filter (fun p=>decide (p.1 < k))=[]:=filter_none (fun x hx=>by simpa using List.not_lt.1 (Lp (h3 x hx)));have a2:F.filter (fun p=>decide (k < p.1))=F:=filter_all (fun x hx=>by simpa using h3 x hx);have a3:F.filter (fun p=>!(p.1 == k))=F:=filter_all (fun x hx=>by simpa using Ne.symm (I1 (h3 x hx)));rw[a1,a2,a3];rfl
theorem Sc{F:M}(h:Up F)(k v:T):(put k v F).Perm ((k,v) :: del k F):=by
 rw[agU h];exact List.perm_middle
theorem get_some{F:M}{k v:T}(h:get F k=some v):(k,v)∈F:=by
 unfold get at h;obtain⟨p,hp,rfl⟩:=Pb.1 h;have h1:=List.find?_some hp;simp at h1;subst h1;exact List.mem_of_find?_eq_some hp
theorem get_mem{F:M}(h:Up F){k v:T}(hm:(k,v)∈F):get F k=some v:=by
 induction F with
 |nil=>simp at hm
 |cons p F ih=>
  obtain⟨h1,h2⟩:=Gd.1 h;unfold get;rcases AZ.1 hm with e|hm
  ·subst e;simp
  ·have:¬ p.1=k:=fun e=>Mk k (by have:=h1 _ hm;rwa[e] at this)
   rw[List.find?_cons_of_neg (by simpa using this)];exact ih h2 hm
theorem get_none{F:M}{k:T}:get F k=none↔∀ p∈F,p.1≠k:=by
 unfold get;rw[Option.map_eq_none_iff,List.find?_eq_none];simp
theorem Nh{F:M}(h:Up F){k v:T}{p:T×T}:p∈put k v F↔p=(k,v)∨(p∈F∧p.1≠k):=by
 rw[(Sc h k v).mem_iff,AZ];unfold del;rw[CU];simp
theorem QF{F:M}{k:T}{p:T×T}:p∈del k F↔p∈F∧p.1≠k:=by
 unfold del;rw[CU];simp
theorem get_put{F:M}(h:Up F)(k v j:T):get (put k v F) j=if j=k then some v else get F j:=by
 by_cases e:j=k
 ·subst e;rw[Ac rfl];exact get_mem (h.put _ _) ((Nh h).2 (.inl rfl))
 ·rw[Aa e];cases hg:get F j with
  |none=>
   rw[get_none] at hg ⊢;intro p hp;rcases(Nh h).1 hp with rfl|⟨hp,_⟩
   ·exact fun e'=>e e'.symm
   ·exact hg p hp
  |some x=>exact get_mem (h.put _ _) ((Nh h).2 (.inr ⟨get_some hg,e⟩))
theorem Zu{F:M}(h:Up F)(k j:T):get (del k F) j=if j=k then none else get F j:=by
 by_cases e:j=k
 ·subst e;rw[Ac rfl,get_none];exact fun p hp=>(QF.1 hp).2
 ·rw[Aa e];cases hg:get F j with
  |none=>
   rw[get_none] at hg ⊢;exact fun p hp=>hg p (QF.1 hp).1
  |some x=>exact get_mem (h.del _) (QF.2 ⟨get_some hg,e⟩)
theorem Sd:∀ {F G:M},Up F→Up G→(∀ p,p∈F↔p∈G)→F=G
 |[],[],_,_,_=>rfl
 |[],q :: G,_,_,h=>absurd ((h q).2 Cc) (by simp)
 |p :: F,[],_,_,h=>absurd ((h p).1 Cc) (by simp)
 |p :: F,q :: G,hF,hG,h=>by
  obtain⟨f1,f2⟩:=Gd.1 hF;obtain⟨g1,g2⟩:=Gd.1 hG;have e:p=q:=by
   rcases AZ.1 ((h p).1 Cc) with e|e
   ·exact e
   ·rcases AZ.1 ((h q).2 Cc) with e2|e2
    ·exact e2.symm
    ·exact absurd (g1 _ e) (Lp (f1 _ e2))
  subst e;rw[Sd f2 g2 (fun x=>?_)];constructor
  ·intro hx;rcases AZ.1 ((h x).1 (Dh _ hx)) with e|e
   ·exact absurd (f1 _ hx) (by rw[e];exact Mk _)
   ·exact e
  ·intro hx;rcases AZ.1 ((h x).2 (Dh _ hx)) with e|e
   ·exact absurd (g1 _ hx) (by rw[e];exact Mk _)
   ·exact e
structure Af where
 name:T
 data:T
 gone:Bool
def E9(name data:T):Bool:=decide (name≠[]∧name.length≤32∧data.length≤65535)
def Af.may(c:Af):Bool:=E9 c.name c.data && (!c.gone || c.data.isEmpty)
def Af.on(F:M)(c:Af):M:=if c.gone then del c.name F else put c.name c.data F
def made(F:M)(l:List Af):M:=l.foldl Af.on F
theorem il(F:M)(l:List Af)(c:Af):made F (l++[c])=Af.on (made F l) c:=by unfold made;rw[List.foldl_append];rfl
theorem Zv(F:M)(l k:List Af):made F (l++k)=made (made F l) k:=by unfold made;rw[List.foldl_append]
theorem Up.on{F:M}(h:Up F)(c:Af):Up (Af.on F c):=by unfold Af.on;split;exact h.del _;exact h.put _ _
theorem Up.made{F:M}(h:Up F)(l:List Af):Up (made F l):=by
 induction l generalizing F with
 |nil=>exact h
 |cons c l ih=>exact ih (h.on c)
def Good(F:M):Prop:=∀ p∈F,E9 p.1 p.2=true
theorem Good.on{F:M}(h:Good F)(hu:Up F){c:Af}(hc:c.may=true):Good (Af.on F c):=by
 unfold Af.may at hc;simp only[Bool.and_eq_true] at hc;unfold Af.on;intro p hp;split at hp
 ·exact h p (QF.1 hp).1
 ·rcases(Nh hu).1 hp with rfl|⟨hp,_⟩
  ·exact hc.1
  ·exact h p hp
theorem Good.made{F:M}(h:Good F)(hu:Up F){l:List Af}(hl:∀ c∈l,c.may=true):Good (made F l):=by
 induction l generalizing F with
 |nil=>exact h
 |cons c l ih=>exact ih (h.on hu (hl c Cc)) (hu.on c) (fun x hx=>hl x (Dh _ hx))
theorem get_made{F:M}(hu:Up F)(l:List Af)(k:T):get (made F l) k=match l.reverse.find? (fun c=>c.name == k) with|none=>get F k|some c=>if c.gone then none else some c.data:=by
 induction l generalizing F with
 |nil=>rfl
 |cons c l ih=>
  show get (made (Af.on F c) l) k=_
  rw[ih (hu.on c),List.reverse_cons,List.find?_append];cases h:l.reverse.find? (fun c=>c.name == k) with
  |some x=>rfl
  |none=>
   simp only[Option.none_or,List.find?_cons,List.find?_nil];by_cases e:c.name=k
   ·subst e;simp only[beq_self_eq_true];unfold Af.on;split
    ·rw[Zu hu,Ac rfl]
    ·rw[get_put hu,Ac rfl]
   ·have e2:(c.name == k)=false:=(by simpa using e);rw[e2];simp only;unfold Af.on;split
    ·rw[Zu hu,Aa (fun h=>e h.symm)]
    ·rw[get_put hu,Aa (fun h=>e h.symm)]
def cost(p:T×T):Nat:=8+p.1.length+p.2.length
def used(F:M):Nat:=4+(F.map cost).sum
def Ni(p:T×T):T:=le 4 p.1.length++(p.1++(le 4 p.2.length++p.2))
def bytes(F:M):T:=le 4 F.length++F.flatMap Ni
theorem agV(p:T×T):(Ni p).length=cost p:=by unfold Ni cost;simp[Crc.Be];omega
theorem Zw(F:M):(F.flatMap Ni).length=(F.map cost).sum:=by
 induction F with
 |nil=>rfl
 |cons p F ih=>rw[List.flatMap_cons,Aj,ih,agV];rfl
theorem iq(F:M):(bytes F).length=used F:=by unfold bytes used;rw[Aj,Crc.Be,Zw]
theorem vC{F:M}{p:T×T}(h:p∈F):cost p+4≤used F:=by
 unfold used;have:cost p≤(F.map cost).sum:=by
  induction F with
  |nil=>simp at h
  |cons q F ih=>
   rw[Bg,Cx];rcases AZ.1 h with rfl|h
   ·omega
   ·have:=ih h;omega
 omega
theorem Ml(F:M):4+8*F.length≤used F:=by
 unfold used;have:8*F.length≤(F.map cost).sum:=by
  induction F with
  |nil=>simp
  |cons q F ih=>rw[Bg,Cx,AX];unfold cost at ih ⊢;omega
 omega
def cut(s:T):Option (T×T):=if s.length < 4 then none else if val (s.take 4)≤s.length -4 then some ((s.take (4+val (s.take 4))).drop 4,s.drop (4+val (s.take 4))) else none
def mayNext(last:Option T)(k:T):Bool:=match last with|none=>true|some x=>decide (x < k)
def readE:Nat→Option T→T→Option (M×T)
 |0,_,s=>some ([],s)
 |n+1,last,s=>(cut s).bind fun p=>(cut p.2).bind fun q=>if E9 p.1 q.1=true∧mayNext last p.1=true then(readE n (some p.1) q.2).map fun r=>((p.1,q.1) :: r.1,r.2) else none
def read(s:T):Option M:=if s.length < 4 then none else(readE (val (s.take 4)) none (s.drop 4)).bind fun r=>if r.2=[] then some r.1 else none
theorem iy(s R:T)(h:s.length < 4294967296):cut (le 4 s.length++(s++R))=some (s,R):=by
 have e1:(le 4 s.length++(s++R)).take 4=le 4 s.length:=Gf (Crc.Be _ _);have e2:val (le 4 s.length)=s.length:=Wal.QD 4 _ (by omega);unfold cut;rw[e1,e2,Aa (by simp[Crc.Be]),Ac (by simp[Crc.Be])];have e3:(le 4 s.length++(s++R)).drop 4=s++R:=Jb (Crc.Be _ _);have e4:(le 4 s.length++(s++R)).drop (4+s.length)=R:=by rw[←List.drop_drop,e3,Jb rfl]
 have e5:((le 4 s.length++(s++R)).take (4+s.length)).drop 4=s:=by
  rw[List.drop_take,e3,show 4+s.length -4=s.length by omega,Gf rfl]
 rw[e4,e5]
theorem Pp{s p q:T}(h:cut s=some (p,q)):4≤s.length∧p.length+q.length+4=s.length:=by
 unfold cut at h;split at h
 ·cases h
 ·split at h
  ·simp only[Bt,Jc] at h;obtain⟨rfl,rfl⟩:=h;rw[BA,BA,Aw];omega
  ·cases h
theorem vE:∀ (F:M) (last:Option T) (R:T),Up F→Good F→(∀ x,last=some x→∀ p∈F,x < p.1)→readE F.length last (F.flatMap Ni++R)=some (F,R)
 |[],_,R,_,_,_=>rfl
 |p :: F,last,R,hu,hg,hl=>by
  obtain⟨u1,u2⟩:=Gd.1 hu;have g1:=hg p Cc;have g2:p.1.length≤32∧p.2.length≤65535:=by unfold E9 at g1;simp at g1;exact⟨g1.2.1,g1.2.2⟩
  rw[AX,List.flatMap_cons];unfold readE;have e1:Ni p++F.flatMap Ni++R=le 4 p.1.length++(p.1++(le 4 p.2.length++(p.2++(F.flatMap Ni++R)))):=by unfold Ni;simp only[Cw]
  rw[e1,iy _ _ (by omega)];simp only[BI];rw[iy _ _ (by omega)];simp only[BI];have hn:mayNext last p.1=true:=by
   cases last with
   |none=>rfl
   |some x=>simpa[mayNext] using hl x rfl p Cc
  rw[Ac ⟨g1,hn⟩,vE F (some p.1) R u2 (fun q hq=>hg q (Dh _ hq)) (fun x hx q hq=>by cases hx;exact u1 q hq)];rfl
theorem agW{F:M}(hu:Up F)(hg:Good F)(hn:F.length < 4294967296):read (bytes F)=some F:=by
 unfold read bytes;rw[Aa (by simp[Crc.Be]),Gf (Crc.Be _ _),Jb (Crc.Be _ _),Wal.QD 4 _ (by omega)];have:=vE F none [] hu hg (fun x e=>by cases e);rw[E8] at this;rw[this];rfl
def Oc(g:Bool):UInt8:=if g then 1 else 0
def group(l:List Af):List T:=l.flatMap fun c=>[Oc c.gone :: c.name,c.data]
def ungroup:List T→Option (List Af)
 |[]=>some []
 |[_]=>none
 |[] :: _ :: _=>none
 |(b :: n) :: d :: l=>if b.toNat≤1∧Af.may ⟨n,d,b == 1⟩=true then(ungroup l).map (⟨n,d,b == 1⟩ :: ·) else none
theorem agX(l:List Af)(c:Af):group (l++[c])=group l++[Oc c.gone :: c.name,c.data]:=by unfold group;simp
theorem vF(l:List Af):(group l).length=2*l.length:=by
 induction l with
 |nil=>rfl
 |cons c l ih=>show(_ :: _ :: group l).length=_;simp[ih];omega
theorem vG:∀ (l:List Af),(∀ c∈l,c.may=true)→ungroup (group l)=some l
 |[],_=>rfl
 |c :: l,h=>by
  show ungroup ((Oc c.gone :: c.name) :: c.data :: group l)=_
  have hc:=h c Cc;have e:(Oc c.gone == 1)=c.gone:=by unfold Oc;cases c.gone<;>rfl
  have e2:(Oc c.gone).toNat≤1:=by unfold Oc;cases c.gone<;>decide
  simp only[ungroup];rw[e,Ac ⟨e2,hc⟩,vG l (fun x hx=>h x (Dh _ hx))];rfl
end Fil
section
open Wal
structure Dsk.Calm(D:Dsk):Prop where
 fine:D.Bf
 loose:D.loose=[]
 up:D.down=false
theorem Dsk.Calm.now{D:Dsk}(h:D.Calm):D.now=D.base:=by unfold Dsk.now;rw[h.loose];rfl
theorem vH(a b:List (Dsk→Dsk×Int))(D:Dsk):doS (a++b) D=if(doS a D).2=0 then doS b (doS a D).1 else doS a D:=by
 induction a generalizing D with
 |nil=>simp[doS]
 |cons f a ih=>
  rw[FL,Uv,Uv];by_cases h:(f D).2=0
  ·rw[Ac h,Ac h,ih]
  ·rw[Aa h,Aa h,Aa h]
def Wrote(D:Dsk)(at_ k:Nat)(s:List UInt8)(r:Dsk×Int):Prop:=
 (r.2=0∧r.1.Calm∧r.1.n=D.n∧r.1.base=Dsk.lay D.base (puts at_ s k)∧(D.left= -1→r.1.left= -1))∨
 (r.2=40∧D.left≠ -1∧r.1.Bf∧r.1.down=true∧r.1.n=D.n∧∀ keep,∀ j,j < at_∨at_+k≤j∨k=1→(r.1.Jd keep).base j=D.base j)
theorem agY(D:Dsk)(a:Nat)(s:List UInt8)(n:Nat)(h:D.left= -1):(Dsk.writes D a s n).2=0∧(Dsk.writes D a s n).1.left= -1:=by
 induction n generalizing D a s with
 |zero=>exact⟨rfl,h⟩
 |succ n ih=>
  simp only[Dsk.writes];rw[Aa (by omega)];exact ih _ _ _ (by show max (D.left -1) (-1)= -1;omega)
theorem WJ{D:Dsk}(h:D.Calm){at_ k:Nat}{s:List UInt8}(hs:s.length=64*k)(hk:at_+k≤D.n):Wrote D at_ k s (doS [fun D=>D.write (at_:Int) s,Dsk.flush] D):=by
 have hF:=h.fine;have hn2:=hF.n2;have hW:D.write (at_:Int) s=Dsk.writes D at_ s k:=by
  unfold Dsk.write;rw[Aa (by simp[h.up]),Ac ⟨by omega,by simp[Dsk.inside];omega⟩,show s.length / 64=k by omega];rfl
 have hl:=fun e=>agY D at_ s k e
 obtain⟨w1,w2,w3⟩:=agT D h.up at_ s k;have hF1:=hF.writes (at_:=at_) (s:=s) (n:=k) (by omega) (by omega);have ay7:k=1→(Dsk.writes D at_ s k).2=40→(Dsk.writes D at_ s k).1.loose=[]:=by
  rintro rfl;simp only[Dsk.writes];split
  ·intro _;exact h.loose
  ·intro e;cases e
 rw[Uv]
 show Wrote D at_ k s (if(D.write (at_:Int) s).2=0 then _ else D.write (at_:Int) s)
 rw[hW];generalize Dsk.writes D at_ s k=r at*;obtain⟨D1,e1⟩:=r;simp only at*;rcases w3 with⟨rfl,g2,g3⟩|⟨rfl,g2,P,g3,g4⟩
 ·rw[Ac rfl];rw[h.loose,DI] at g3;have hfl:D1.flush=({ D1 with base:=Dsk.lay D1.base D1.loose,loose:=[] },0):=by unfold Dsk.flush;rw[Aa (by simp[g2])]
  have hF2:=hF1.flush;rw[hfl] at hF2;rw[Uv,hfl,Ac rfl];refine .inl ⟨rfl,⟨hF2,rfl,g2⟩,w2,?_,fun e=>(hl e).2⟩
  show Dsk.lay D1.base D1.loose=_
  rw[w1,g3]
 ·rw[Aa (by decide)];refine .inr ⟨rfl,fun e=>by have:=(hl e).1;simp at this,hF1,g2,w2,fun keep j hj=>?_⟩;have e2:(D1.Jd keep).base=Dsk.lay D1.base (Dsk.kept D1 keep):=rfl;rw[e2,ic,w1];intro p hp;have hp1:=Dsk.sO 0 _ p hp;rcases hj with hj|hj|hj
  ·rw[g3,h.loose,DI] at hp1;have:=g4 p hp1;omega
  ·rw[g3,h.loose,DI] at hp1;have:=g4 p hp1;omega
  ·rw[ay7 hj rfl] at hp1;simp at hp1
def logAt(f:Nat→List UInt8)(L:AO):Prop:=FV (Dsk.text f L.from_ L.n) L.n=some (L.gen,L.used,L.groups)
theorem iA{f g:Nat→List UInt8}{L:AO}(h:logAt f L)(e:∀ j,L.from_≤j→j < L.from_+L.n→g j=f j):logAt g L:=by
 unfold logAt at*;rw[Dsk.Kn (g:=f) _ _ (fun i a b=>e i a b)];exact h
theorem vI{D:Dsk}(hD:D.Bf){L:AO}(h:logAt D.base L)(h1:1≤L.n)(hn:L.from_+L.n≤D.n){g:Nat→List UInt8}
  (e:∀ j,L.from_≤j→j < L.from_+1+L.used→g j=D.base j):logAt g L:=by
 unfold logAt at*;have hl1:(Dsk.text D.base L.from_ L.n).length=64*L.n:=Dsk.Wi hD.base _ _ (by omega);have hu:=(WH h (by omega) h1).1;refine agS h (by omega) h1 ?_;obtain⟨m,hm⟩:∃ m,L.n=1+L.used+m:=⟨L.n -(1+L.used),by omega⟩;have e2:=Dsk.Kn (f:=g) (g:=D.base) L.from_ (1+L.used) (fun i a b=>e i a (by omega));rw[hm,Dsk.Qp D.base L.from_ (1+L.used) m,Dsk.Qp g L.from_ (1+L.used) m,e2];rw[show 64+64*L.used=64*(1+L.used) by omega,Gf (Dsk.Qq (fun i a b=>hD.base i (by omega))),Gf (Dsk.Qq (fun i a b=>hD.base i (by omega)))]
def agZ(D:Dsk)(L:AO)(l:List (List UInt8))(k:Nat)(r:Dsk×AO×Int):Prop:=
 (r.2.2=0∧r.2.1=L.grown l k∧r.1.Calm∧r.1.n=D.n∧logAt r.1.base (L.grown l k)∧(∀ j,j < L.from_∨L.from_+L.n≤j→r.1.base j=D.base j)∧(D.left= -1→r.1.left= -1))∨
 (r.2.2=40∧D.left≠ -1∧r.2.1=L.fell 40∧r.1.Bf∧r.1.down=true∧r.1.n=D.n∧∀ keep,logAt (r.1.Jd keep).base L∧∀ j,j < L.from_∨L.from_+L.n≤j→(r.1.Jd keep).base j=D.base j)
theorem Lr(f:Nat→List UInt8)(a:Nat)(s:List UInt8)(k j:Nat)(h:j < a∨a+k≤j):Dsk.lay f (puts a s k) j=f j:=ic _ _ _ (fun p hp=>by have:=vB p hp;omega)
theorem iB(f:Nat→List UInt8)(a:Nat)(s:List UInt8)(hs:s.length=64):Dsk.lay f (puts a s 1) a=s:=by
 have:=ig f a s 1 (by omega);simpa[Dsk.text] using this
theorem ah0{f:Nat→List UInt8}{a n u k:Nat}{s M:List UInt8}(hs:s.length=64*k)(hM:M.length=64)(hk:u+k+1≤n)(hf:∀ i,a≤i→i < a+n→(f i).length=64):
  Dsk.text (Dsk.lay (Dsk.lay f (puts (a+1+u) s k)) (puts a M 1)) a n=M++(((Dsk.text f a n).drop 64).take (64*u)++(s++Dsk.text f (a+1+u+k) (n -1 -u -k))):=by
 obtain⟨m,hm2⟩:∃ m,n=m+1:=⟨n -1,by omega⟩;subst hm2
 show _++Dsk.text _ (a+1) m=_
 rw[iB _ _ _ hM]
 congr 1
 rw[Dsk.Kn (g:=Dsk.lay f (puts (a+1+u) s k)) (a+1) m (fun i a1 a2=>Lr _ _ _ _ _ (by omega))];obtain⟨q,rfl⟩:∃ q,m=u+(k+q):=⟨m -(u+k),by omega⟩;rw[Dsk.Qp,Dsk.Qp];have t1:Dsk.text (Dsk.lay f (puts (a+1+u) s k)) (a+1) u=((Dsk.text f a (u+(k+q)+1)).drop 64).take (64*u):=by
  rw[Dsk.Kn (g:=f) (a+1) u (fun i a1 a2=>Lr _ _ _ _ _ (by omega))]
  show _=((f a++Dsk.text f (a+1) _).drop 64).take _
  rw[Jb (hf a (by omega) (by omega)),Dsk.Qp,Gf (Dsk.Qq (fun i a1 a2=>hf i (by omega) (by omega)))]
 rw[t1,ig _ _ _ _ hs,Dsk.Kn (g:=f) (a+1+u+k) q (fun i a1 a2=>Lr _ _ _ _ _ (by omega)),show u+(k+q)+1 -1 -u -k=q by omega]
theorem ah1{D:Dsk}{L:AO}(h:D.Calm)(hl:logAt D.base L)(hf:L.fault=0)(h2:2≤L.n)(hn:L.from_+L.n≤D.n){l:List (List UInt8)}{s:List UInt8}(hg:EU l=some s)(au4:¬ L.n -1 -L.used < s.length / 64):
  agZ D L l (s.length / 64) (wappend D L l):=by
 obtain⟨h64,aqQ⟩:=WG hg;have hF:=h.fine;have hn2:=hF.n2;have hlen:(Dsk.text D.base L.from_ L.n).length=64*L.n:=Dsk.Wi hF.base _ _ (by omega);have hu:=(WH hl (by omega) (by omega)).1;obtain⟨k,hk⟩:∃ k,k=s.length / 64:=⟨_,rfl⟩;rw[←hk] at au4 ⊢;have hsl:s.length=64*k:=by omega
 have hm:=Wal.Je L.gen (L.used+k);have iC:L.acts s=[fun D=>D.write ((L.from_+1+L.used:Nat):Int) s,Dsk.flush]++[fun D=>D.write (L.from_:Int) (Wal.mark L.gen (L.used+k)),Dsk.flush]:=by unfold AO.acts;rw[←hk];rfl
 have ah2:wappend D L l=if(doS (L.acts s) D).2=0 then((doS (L.acts s) D).1,L.grown l k,0) else((doS (L.acts s) D).1,L.fell (doS (L.acts s) D).2,(doS (L.acts s) D).2):=by
  unfold wappend;rw[Aa (by simp[hf]),hg];simp only;rw[←hk,Aa au4]
 rw[ah2,iC,vH];have w1:=WJ h (at_:=L.from_+1+L.used) (k:=k) (s:=s) hsl (by omega);generalize doS [fun D=>D.write ((L.from_+1+L.used:Nat):Int) s,Dsk.flush] D=r1 at*;rcases w1 with⟨e1,c1,n1,b1,l1⟩|⟨e1,l1,f1,d1,n1,b1⟩
 ·rw[Ac e1];have w2:=WJ c1 (at_:=L.from_) (k:=1) (s:=Wal.mark L.gen (L.used+k)) (by omega) (by omega);generalize doS [fun D=>D.write (L.from_:Int) (Wal.mark L.gen (L.used+k)),Dsk.flush] r1.1=r2 at*;rcases w2 with⟨e2,c2,n2,b2,l2⟩|⟨e2,l2,f2,d2,n2,b2⟩
  ·rw[Ac e2];refine .inl ⟨rfl,rfl,c2,n2.trans n1,?_,fun j hj=>?_,fun e=>l2 (l1 e)⟩
   ·have hgr:=agR hl (by omega) (by omega) (by omega) hg (R:=Dsk.text D.base (L.from_+1+L.used+k) (L.n -1 -L.used -k)) (by omega)
    show FV (Dsk.text _ L.from_ L.n) L.n=some (L.gen,L.used+k,L.groups++[l])
    rw[←hk] at hgr;refine Eq.trans ?_ hgr;rw[b2,b1]
    congr 1
    exact ah0 hsl hm (by omega) (fun i a b=>hF.base i (by omega))
   ·rw[b2,Lr _ _ _ _ _ (by omega),b1,Lr _ _ _ _ _ (by omega)]
  ·rw[Aa (by rw[e2];decide),e2];refine .inr ⟨rfl,fun e=>l2 (l1 e),rfl,f2,d2,n2.trans n1,fun keep=>⟨?_,fun j hj=>?_⟩⟩
   ·refine vI hF hl (by omega) hn (fun j a b=>?_);rw[b2 keep j (.inr (.inr rfl)),b1,Lr _ _ _ _ _ (by omega)]
   ·rw[b2 keep j (.inr (.inr rfl)),b1,Lr _ _ _ _ _ (by omega)]
 ·have hne:r1.2≠0:=by rw[e1];decide
  rw[Aa hne,Aa hne,e1];refine .inr ⟨rfl,l1,rfl,f1,d1,n1,fun keep=>⟨?_,fun j hj=>?_⟩⟩
  ·exact vI hF hl (by omega) hn (fun j a b=>b1 keep j (by omega))
  ·exact b1 keep j (by omega)
def vJ(D:Dsk)(L:AO)(r:Dsk×AO×Int):Prop:=
 (r.2.2=0∧r.2.1=L.Ob∧r.1.Calm∧r.1.n=D.n∧logAt r.1.base L.Ob∧(∀ j,j < L.from_∨L.from_+L.n≤j→r.1.base j=D.base j)∧(D.left= -1→r.1.left= -1))∨
 (r.2.2=40∧D.left≠ -1∧r.2.1=L.fell 40∧r.1.Bf∧r.1.down=true∧r.1.n=D.n∧∀ keep,∀ j,(r.1.Jd keep).base j=D.base j)
theorem vK{D:Dsk}{L:AO}(h:D.Calm)(hf:L.fault=0)(h2:2≤L.n)(hn:L.from_+L.n≤D.n):vJ D L (Cs D L):=by
 have hF:=h.fine;have hn2:=hF.n2;have hm:=Wal.Je ((L.gen+1) % 18446744073709551616) 0;have hg2:(L.gen+1) % 18446744073709551616 < 18446744073709551616:=Nat.mod_lt _ (by decide);have w1:=WJ h (at_:=L.from_) (k:=1) (s:=Wal.mark ((L.gen+1) % 18446744073709551616) 0) (by omega) (by omega);unfold Cs AO.Hz;rw[Aa (by simp[hf])];have hem:L.Ob={ L with gen:=(L.gen+1) % 18446744073709551616,used:=0,groups:=[] }:=rfl;unfold vJ;rw[hem];generalize (L.gen+1) % 18446744073709551616=g2 at*;generalize doS [fun D=>D.write (L.from_:Int) (Wal.mark g2 0),Dsk.flush] D=r1 at*;rcases w1 with⟨e1,c1,n1,b1,l1⟩|⟨e1,l1,f1,d1,n1,b1⟩
 ·rw[Ac e1];refine .inl ⟨rfl,rfl,c1,n1,?_,fun j hj=>by show r1.1.base j=_;rw[b1,Lr _ _ _ _ _ (by omega)],l1⟩
  show FV (Dsk.text r1.1.base L.from_ L.n) L.n=some (g2,0,[])
  obtain⟨m,hm2⟩:∃ m,L.n=m+1:=⟨L.n -1,by omega⟩;rw[hm2,b1]
  show FV (Dsk.lay D.base (puts L.from_ (Wal.mark g2 0) 1) L.from_++Dsk.text _ (L.from_+1) m) (m+1)=_
  rw[iB _ _ _ hm];exact vk (L:=[]) (S:=[]) hg2 (by omega) (by decide) rfl rfl
 ·have hne:r1.2≠0:=by rw[e1];decide
  rw[Aa hne,e1];exact .inr ⟨rfl,l1,rfl,f1,d1,n1,fun keep j=>b1 keep j (.inr (.inr rfl))⟩
end
namespace Fil
open Crc (le val Du)
open Wal
structure St where
 log:Nat
 size:Nat
 Ak:Nat
 m:M
 w:AO
 fault:Int
def lg(n:Nat):Nat:=max (n / 8) 2
def sz(n:Nat):Nat:=(n -1 -lg n) / 2
theorem Sg{n:Nat}(h:8≤n):2≤lg n∧2≤sz n∧1+lg n+2*sz n≤n:=by unfold sz lg;omega
def mark(Ak num:Nat):T:=pad (Du ([70,73,76,49]++[UInt8.ofNat Ak]++le 8 num))
theorem Je(Ak num:Nat):(mark Ak num).length=64:=by
 unfold mark;rw[Md,Crc.Mc];simp[Crc.Be]
def BL(log size Ak:Nat):Nat:=1+log+Ak*size
def IU(f:Nat→T)(log size:Nat):Option (Nat×Nat×M):=
 if f 0=pad [0] then some (0,0,[]) else
 if((f 0).getD 4 0).toNat≤1∧f 0=mark ((f 0).getD 4 0).toNat (val (((f 0).take 13).drop 5)) then
  (cut (Dsk.text f (BL log size ((f 0).getD 4 0).toNat) size)).bind fun p=>(read p.1).map fun m=>(((f 0).getD 4 0).toNat,val (((f 0).take 13).drop 5),m)
 else none
def ungroups:List (List T)→Option (List (List Af))
 |[]=>some []
 |g :: G=>(ungroup g).bind fun c=>(ungroups G).map (c :: ·)
def JG(m:M)(cs:List (List Af)):M:=cs.foldl made m
theorem ah3(G:List (List T))(g:List T):ungroups (G++[g])=(ungroups G).bind fun cs=>(ungroup g).map fun c=>cs++[c]:=by
 induction G with
 |nil=>cases h:ungroup g<;>simp[ungroups,h]
 |cons x G ih=>
  rw[FL];simp only[ungroups,ih];cases ungroup x with
  |none=>rfl
  |some a=>
   cases ungroups G with
   |none=>rfl
   |some b=>
    cases ungroup g with
    |none=>rfl
    |some c=>rfl
theorem vL(m:M)(cs:List (List Af))(c:List Af):JG m (cs++[c])=made (JG m cs) c:=by unfold JG;rw[List.foldl_append];rfl
theorem iD:∀ (n:Nat) (l:List T) (cs:List Af),l.length≤n→ungroup l=some cs→∀ c∈cs,c.may=true:=by
 intro n
 induction n with
 |zero=>
  intro l cs hn h c hc;obtain rfl:l=[]:=List.eq_nil_of_length_eq_zero (by omega);simp only[ungroup,Bt] at h;subst h;simp at hc
 |succ n ih=>
  intro l cs hn h
  match l,h with
  |[],h=>
   simp only[ungroup,Bt] at h;subst h;intro c hc;simp at hc
  |[_],h=>simp[ungroup] at h
  |[] :: _ :: _,h=>simp[ungroup] at h
  |(b :: k) :: d :: l,h=>
   simp only[ungroup] at h;split at h
   ·rename_i hm
    obtain⟨ds,hd,rfl⟩:=Pb.1 h;intro c hc;rcases AZ.1 hc with rfl|hc
    ·exact hm.2
    ·exact ih l ds (by simp at hn;omega) hd c hc
   ·cases h
def openF(D:Dsk):Option St×Dsk×Int:=
 if D.n < 8 then(none,D,2) else if D.down=true then(none,D,40) else
 match IU D.now (lg D.n) (sz D.n) with
 |none=>(none,D,50)
 |some (a,num,m)=>match FV (Dsk.text D.now 1 (lg D.n)) (lg D.n) with
  |none=>(none,D,50)
  |some (g,u,G)=>if 0 < num∧g < num -1 then(none,D,50) else
   match ungroups G with
   |none=>(none,D,50)
   |some cs=>if g < num then
     (if(Cs D ⟨1,lg D.n,g,u,G,0⟩).2.2=0 then(some ⟨lg D.n,sz D.n,a,m,(Cs D ⟨1,lg D.n,g,u,G,0⟩).2.1,0⟩,(Cs D ⟨1,lg D.n,g,u,G,0⟩).1,0)
      else(none,(Cs D ⟨1,lg D.n,g,u,G,0⟩).1,(Cs D ⟨1,lg D.n,g,u,G,0⟩).2.2))
    else(some ⟨lg D.n,sz D.n,a,JG m cs,⟨1,lg D.n,g,u,G,0⟩,0⟩,D,0)
def Ls(m:M):T:=pad (le 4 (bytes m).length++bytes m)
def EY(F:St)(m:M):List (Dsk→Dsk×Int):=
 [fun D=>D.write ((BL F.log F.size (1 -F.Ak):Nat):Int) (Ls m),Dsk.flush,fun D=>D.write ((0:Nat):Int) (mark (1 -F.Ak) ((F.w.gen+1) % 18446744073709551616)),Dsk.flush]
def JH(D:Dsk)(F:St)(m:M):Dsk×St×Int:=
 if(doS (EY F m) D).2=0 then
  if(Cs (doS (EY F m) D).1 F.w).2.2=0 then((Cs (doS (EY F m) D).1 F.w).1,{ F with Ak:=1 -F.Ak,m:=m,w:=(Cs (doS (EY F m) D).1 F.w).2.1 },0)
  else((Cs (doS (EY F m) D).1 F.w).1,{ F with Ak:=1 -F.Ak,w:=(Cs (doS (EY F m) D).1 F.w).2.1,fault:=(Cs (doS (EY F m) D).1 F.w).2.2 },(Cs (doS (EY F m) D).1 F.w).2.2)
 else((doS (EY F m) D).1,{ F with Ak:=1 -F.Ak,fault:=(doS (EY F m) D).2 },(doS (EY F m) D).2)
def St.room(F:St):Nat:=F.size*64 -4
def St.fits(F:St)(l:List T):Bool:=match EU l with|none=>false|some s=>decide (s.length / 64≤F.w.n -1 -F.w.used)
def Gl(D:Dsk)(F:St)(l:List Af):Dsk×St×Int:=
 if F.fault≠0 then(D,F,F.fault) else if l.all Af.may=false then(D,F,2) else
 if F.room < used (made F.m l) then(D,F,4) else
 if F.fits (group l)=true then
  if(wappend D F.w (group l)).2.2=0 then((wappend D F.w (group l)).1,{ F with m:=made F.m l,w:=(wappend D F.w (group l)).2.1 },0)
  else((wappend D F.w (group l)).1,{ F with w:=(wappend D F.w (group l)).2.1,fault:=(wappend D F.w (group l)).2.2 },(wappend D F.w (group l)).2.2)
 else JH D F (made F.m l)
structure Calm(D:Dsk)(F:St):Prop where
 disk:D.Calm
 n8:8≤D.n
 log:F.log=lg D.n
 size:F.size=sz D.n
 Ak:F.Ak≤1
 Nj:F.w.from_=1
 wn:F.w.n=F.log
 Cy:logAt D.base F.w
 wf:F.w.fault=0
 fault:F.fault=0
 good:Good F.m
 up:Up F.m
 room:used F.m≤F.room
 load:∃ num A cs,IU D.base F.log F.size=some (F.Ak,num,A)∧num≤F.w.gen∧ungroups F.w.groups=some cs∧F.m=JG A cs
def Zx(D:Dsk)(F:St)(D':Dsk):Prop:=openF D=(some F,D',0)∧Calm D' F∧D'.n=D.n
theorem Calm.opens{D:Dsk}{F:St}(h:Calm D F):Zx D F D:=by
 refine⟨?_,h,rfl⟩;obtain⟨num,A,cs,h1,h2,h3,h4⟩:=h.load;have hw:=h.Cy;unfold logAt at hw;rw[h.Nj,h.wn,h.log] at hw;rw[h.log,h.size] at h1;unfold openF;rw[Aa (by have:=h.n8;omega),Aa (by simp[h.disk.up]),h.disk.now,h1];simp only;rw[hw];simp only;rw[Aa (by omega),h3];simp only;rw[Aa (by omega),←h4];have e:(⟨1,lg D.n,F.w.gen,F.w.used,F.w.groups,0⟩:AO)=F.w:=by
  have a1:=h.Nj;have a2:=h.wn;have a3:=h.wf;have a4:=h.log;cases hF:F.w;rw[hF] at a1 a2 a3;simp only at a1 a2 a3;subst a1 a3;rw[a2,a4]
 rw[e];have a1:=h.log;have a2:=h.size;have a3:=h.fault;cases F;simp only at a1 a2 a3;subst a1 a2 a3;rfl
theorem vM{f g:Nat→T}{log size a num:Nat}{A:M}(h:IU f log size=some (a,num,A))(h0:g 0=f 0)(h1:∀ j,BL log size a≤j→j < BL log size a+size→g j=f j):IU g log size=some (a,num,A):=by
 unfold IU at*;rw[h0];by_cases h2:f 0=pad [0]
 ·rw[Ac h2] at h ⊢;exact h
 ·rw[Aa h2] at h ⊢;by_cases h3:((f 0).getD 4 0).toNat≤1∧f 0=mark ((f 0).getD 4 0).toNat (val (((f 0).take 13).drop 5))
  ·rw[Ac h3] at h;have ha:((f 0).getD 4 0).toNat=a:=by
    cases hc:cut (Dsk.text f (BL log size ((f 0).getD 4 0).toNat) size) with
    |none=>rw[hc] at h;cases h
    |some p=>
     rw[hc] at h;simp only[BI] at h;obtain⟨m,_,e⟩:=Pb.1 h;simp only[Jc] at e;exact e.1
   rw[Ac h3,ha,Dsk.Kn (g:=f) _ _ (fun i b c=>h1 i b (by omega))];rw[ha] at h;exact h
  ·rw[Aa h3] at h;cases h
theorem Calm.near{D E:Dsk}{F F':St}(h:Calm D F)(hE:E.Calm)(hn:E.n=D.n)(hl:logAt E.base F'.w)(e:F'={ F with w:=F'.w })(e1:F'.w.from_=1)(e2:F'.w.n=F.w.n)(e3:F'.w.fault=0)(hg:F.w.gen≤F'.w.gen)(hG:F'.w.groups=F.w.groups)
  (hb:∀ j,(j=0∨BL F.log F.size F.Ak≤j∧j < BL F.log F.size F.Ak+F.size)→E.base j=D.base j):Calm E F':=by
 obtain⟨num,A,cs,h1,h2,h3,h4⟩:=h.load;have f1:F'.log=F.log:=by rw[e]
 have f2:F'.size=F.size:=by rw[e]
 have f3:F'.Ak=F.Ak:=by rw[e]
 have f4:F'.m=F.m:=by rw[e]
 have f5:F'.fault=F.fault:=by rw[e]
 refine⟨hE,by rw[hn];exact h.n8,by rw[f1,hn];exact h.log,by rw[f2,hn];exact h.size,by rw[f3];exact h.Ak,e1,by rw[e2,f1];exact h.wn,hl,e3,by rw[f5];exact h.fault,by rw[f4];exact h.good,by rw[f4];exact h.up,by unfold St.room;rw[f4,f2];exact h.room,num,A,cs,?_,by omega,by rw[hG];exact h3,by rw[f4];exact h4⟩;rw[f1,f2,f3];exact vM h1 (hb 0 (.inl rfl)) (fun j a b=>hb j (.inr ⟨a,b⟩))
theorem ah4:pad [0]=List.replicate 64 0:=rfl
theorem Calm.new{n:Nat}(h8:8≤n)(hn:n≤16384):Calm (Dsk.new n) ⟨lg n,sz n,0,[],⟨1,lg n,0,0,[],0⟩,0⟩:=by
 obtain⟨h1,h2,h3⟩:=Sg h8;refine⟨⟨Dsk.Bf.new (by omega) hn,rfl,rfl⟩,h8,rfl,rfl,Ar _,rfl,rfl,?_,rfl,rfl,fun p hp=>by simp at hp,Up.nil,by unfold used St.room;simp;omega,0,[],[],?_,Ab _,rfl,rfl⟩
 ·show FV (Dsk.text (fun _=>IM) 1 (lg n)) (lg n)=some (0,0,[])
  rw[Dsk.sS];unfold FV;have e:(List.replicate (64*lg n) (0:UInt8)).take 64=pad [0]:=by
   rw[List.take_replicate,FM (by omega)];rfl
  rw[e,Ac rfl]
 ·show IU (fun _=>IM) _ _=_
  unfold IU;exact Ac rfl
theorem Sb(a num:Nat):∃ z,mark a num=[70,73,76,49]++([UInt8.ofNat a]++(le 8 num++z)):=by
 unfold mark pad Crc.Du;simp only[Cw];exact⟨_,rfl⟩
theorem vN(a num:Nat)(ha:a≤1):(mark a num).getD 4 0=UInt8.ofNat a∧((mark a num).getD 4 0).toNat=a:=by
 obtain⟨z,e⟩:=Sb a num;have e1:(mark a num).getD 4 0=UInt8.ofNat a:=by rw[e];rfl
 exact⟨e1,by rw[e1,Qo,Nat.mod_eq_of_lt (by omega)]⟩
theorem vO(a num:Nat)(hn:num < 18446744073709551616):val (((mark a num).take 13).drop 5)=num:=by
 obtain⟨z,e⟩:=Sb a num;have e1:((mark a num).take 13).drop 5=le 8 num:=by
  rw[e,←Cw,List.drop_take,Jb (show([70,73,76,49]++[UInt8.ofNat a]).length=5 from rfl),Gf (by rw[Crc.Be])]
 rw[e1];exact QD 8 _ (by omega)
theorem Zt(a num:Nat):mark a num≠pad [0]:=fun h=>by
 obtain⟨z,e⟩:=Sb a num;rw[e,ah4] at h;have:=congrArg (fun l=>l.head?) h;simp at this
theorem ah5{f:Nat→T}{log size a num:Nat}{m:M}{R:T}(ha:a≤1)(hn:num < 18446744073709551616)(hu:Up m)(hg:Good m)(hb:used m < 4294967296)(h0:f 0=mark a num)(h1:Dsk.text f (BL log size a) size=le 4 (bytes m).length++(bytes m++R)):IU f log size=some (a,num,m):=by
 unfold IU;rw[h0,Aa (Zt a num),(vN a num ha).2,vO a num hn,Ac ⟨ha,rfl⟩,h1,iy _ _ (by rw[iq];exact hb)];simp only[BI];rw[agW hu hg (by have:=Ml m;omega)];rfl
theorem vP(m:M):(Ls m).length=(4+used m+63) / 64*64:=by
 unfold Ls;rw[Md,Aj,Crc.Be,iq]
theorem ah6(m:M):∃ z,Ls m=le 4 (bytes m).length++(bytes m++z):=by
 unfold Ls pad;exact⟨_,by rw[Cw]⟩
structure vQ(D:Dsk)(F:St)(l:List Af)(r:Dsk×St×Int):Prop where
 n:r.1.n=D.n
 fine:r.1.Bf
 same:r.2.1.log=F.log∧r.2.1.size=F.size
 out:(r.2.2=0∧Calm r.1 r.2.1∧r.2.1.m=made F.m l∧r.2.1.w.gen≤F.w.gen+1∧(D.left= -1→r.1.left= -1))∨
  (r.2.2=40∧D.left≠ -1∧r.2.1.fault=40∧r.2.1.m=F.m∧r.1.down=true∧∀ keep,∃ F' D',Zx (r.1.Jd keep) F' D'∧D'.left= -1∧F'.w.gen≤F.w.gen+1∧(F'.m=F.m∨F'.m=made F.m l))
theorem Zy{D:Dsk}(h:D.Bf)(keep:List UInt8):(D.Jd keep).Calm:=⟨h.Jd keep,rfl,rfl⟩
theorem ah7{D:Dsk}{F:St}(h:Calm D F)(vR:F.w.gen < 9223372036854775808){m:M}(hu:Up m)(hg:Good m)(hr:used m≤F.room){l:List Af}(hm:m=made F.m l):vQ D F l (JH D F m):=by
 obtain⟨g1,g2,g3⟩:=Sg h.n8;have WC:=h.log;have aug:=h.size;have hF:=h.disk.fine;have hn2:=hF.n2;have hl:=h.Cy;have hwn:=h.wn;have hwf:=h.Nj;have har:=h.Ak;unfold St.room at hr;have hA:(1 -F.Ak)≤1:=by omega
 have ha1:=vP m;obtain⟨k,hk⟩:∃ k,(Ls m).length=64*k:=⟨(4+used m+63) / 64,by omega⟩;have hk2:k≤F.size:=by omega
 have ah8:BL F.log F.size (1 -F.Ak)+F.size≤D.n∧1+F.log≤BL F.log F.size (1 -F.Ak)∧(BL F.log F.size F.Ak+F.size≤BL F.log F.size (1 -F.Ak)∨BL F.log F.size (1 -F.Ak)+F.size≤BL F.log F.size F.Ak):=by
  unfold BL;rcases Nat.lt_or_ge F.Ak 1 with e|e
  ·obtain e0:F.Ak=0:=(by omega);rw[e0];omega
  ·obtain e0:F.Ak=1:=(by omega);rw[e0];omega
 obtain⟨b1,b2,b3⟩:=ah8;have hgm:(F.w.gen+1) % 18446744073709551616=F.w.gen+1:=Nat.mod_eq_of_lt (by omega);have DU:=Je (1 -F.Ak) (F.w.gen+1);have iC:EY F m=[fun D=>D.write ((BL F.log F.size (1 -F.Ak):Nat):Int) (Ls m),Dsk.flush]++[fun D=>D.write ((0:Nat):Int) (mark (1 -F.Ak) (F.w.gen+1)),Dsk.flush]:=by unfold EY;rw[hgm];rfl
 have hold:∀ E:Dsk,E.Calm→E.n=D.n→(∀ j,j < BL F.log F.size (1 -F.Ak)∨BL F.log F.size (1 -F.Ak)+F.size≤j→E.base j=D.base j)→Calm E F:=fun E hE hn hb=>
  h.near hE hn (iA hl (fun j c d=>hb j (.inl (by omega)))) (by cases F;rfl) h.Nj rfl h.wf (Ab _) rfl (fun j hj=>hb j (by rcases hj with rfl|hj;exact .inl (by omega);omega))
 unfold JH;rw[iC,vH];have w1:=WJ h.disk (at_:=BL F.log F.size (1 -F.Ak)) (k:=k) (s:=Ls m) hk (by omega);generalize doS [fun D=>D.write ((BL F.log F.size (1 -F.Ak):Nat):Int) (Ls m),Dsk.flush] D=r1 at*;rcases w1 with⟨e1,c1,n1,q1,l1⟩|⟨e1,l1,f1,d1,n1,q1⟩
 ·rw[Ac e1];have w2:=WJ c1 (at_:=0) (k:=1) (s:=mark (1 -F.Ak) (F.w.gen+1)) (by omega) (by omega);generalize doS [fun D=>D.write ((0:Nat):Int) (mark (1 -F.Ak) (F.w.gen+1)),Dsk.flush] r1.1=r2 at*;rcases w2 with⟨e2,c2,n2,q2,l2⟩|⟨e2,l2,f2,d2,n2,q2⟩
  ·rw[Ac e2];have hb2:∀ j,j≠0→(j < BL F.log F.size (1 -F.Ak)∨BL F.log F.size (1 -F.Ak)+F.size≤j)→r2.1.base j=D.base j:=fun j h0 hj=>by
    rw[q2,Lr _ _ _ _ _ (by omega),q1,Lr _ _ _ _ _ (by omega)]
   have hl2:logAt r2.1.base F.w:=iA hl (fun j c d=>hb2 j (by omega) (.inl (by omega)));have w3:=vK c2 (L:=F.w) h.wf (by omega) (by omega);obtain⟨z,ez⟩:=ah6 m;have aAQ:∀ E:Dsk,(∀ j,j < 1∨1+F.log≤j→E.base j=r2.1.base j)→IU E.base F.log F.size=some (1 -F.Ak,F.w.gen+1,m):=fun E hE=>by
    refine ah5 (R:=z++Dsk.text D.base (BL F.log F.size (1 -F.Ak)+k) (F.size -k)) hA (by omega) hu hg (by omega) ?_ ?_
    ·rw[hE 0 (by omega),q2,iB _ _ _ DU]
    ·obtain⟨q,hq⟩:∃ q,F.size=k+q:=⟨F.size -k,by omega⟩;have e3:Dsk.text E.base (BL F.log F.size (1 -F.Ak)) F.size=Dsk.text (Dsk.lay D.base (puts (BL F.log F.size (1 -F.Ak)) (Ls m) k)) (BL F.log F.size (1 -F.Ak)) F.size:=by
      refine Dsk.Kn _ _ (fun i c d=>?_);rw[hE i (by omega),q2,Lr _ _ _ _ _ (by omega),q1]
     rw[e3];generalize BL F.log F.size (1 -F.Ak)=B at*;rw[hq,Dsk.Qp,ig _ _ _ _ hk,Dsk.Kn (g:=D.base) (B+k) q (fun i c d=>Lr _ _ _ _ _ (by omega)),ez,show k+q -k=q by omega];simp only[Cw]
   generalize Cs r2.1 F.w=r3 at*;have hem:F.w.Ob=⟨1,F.log,F.w.gen+1,0,[],0⟩:=by
    unfold AO.Ob;rw[hgm];have a1:=h.Nj;have a2:=h.wn;have a3:=h.wf;cases hF2:F.w;rw[hF2] at a1 a2 a3;simp only at a1 a2 a3 ⊢;subst a1 a2 a3;rfl
   have aAp:∀ E:Dsk,E.Calm→E.n=D.n→logAt E.base (⟨1,F.log,F.w.gen+1,0,[],0⟩:AO)→(∀ j,j < 1∨1+F.log≤j→E.base j=r2.1.base j)→Calm E ⟨F.log,F.size,1 -F.Ak,m,⟨1,F.log,F.w.gen+1,0,[],0⟩,0⟩:=fun E hE hn hw hb=>
    ⟨hE,by rw[hn];exact h.n8,by rw[hn];exact h.log,by rw[hn];exact h.size,hA,rfl,rfl,hw,rfl,rfl,hg,hu,hr,F.w.gen+1,m,[],aAQ E hb,Ab _,rfl,rfl⟩
   rcases w3 with⟨e3,o3,c3,n3,g3,q3,l3⟩|⟨e3,l3,o3,f3,d3,n3,q3⟩
   ·rw[Ac e3];rw[hem] at o3 g3;refine⟨n3.trans (n2.trans n1),c3.fine,⟨rfl,rfl⟩,.inl ⟨rfl,?_,hm,by rw[o3];exact Ab _,fun e=>l3 (l2 (l1 e))⟩⟩;have:=aAp r3.1 c3 (n3.trans (n2.trans n1)) g3 (fun j hj=>q3 j (by omega));rw[o3];have vS:=h.fault;cases F;simp only at vS;subst vS;exact this
   ·have hne:r3.2.2≠0:=(by rw[e3];decide);rw[Aa hne];refine⟨n3.trans (n2.trans n1),f3,⟨rfl,rfl⟩,.inr ⟨e3,fun e=>l3 (l2 (l1 e)),e3,rfl,d3,fun keep=>?_⟩⟩;have Uj:(r3.1.Jd keep).n=D.n:=n3.trans (n2.trans n1);have iE:=Zy f3 keep;have iF:=q3 keep;have hEl:(r3.1.Jd keep).left= -1:=rfl;generalize r3.1.Jd keep=E at*;have hlE:logAt E.base F.w:=iA hl2 (fun j _ _=>iF j);have w4:=vK iE (L:=F.w) h.wf (by omega) (by omega);rcases w4 with⟨e4,o4,c4,n4,g4,q4,l4⟩|⟨_,l4,_⟩
    ·rw[hem] at o4 g4;refine⟨_,_,⟨?_,aAp (Cs E F.w).1 c4 (n4.trans Uj) g4 (fun j hj=>(q4 j (by omega)).trans (iF j)),n4⟩,l4 hEl,Ab _,.inr hm⟩;have hw:=hlE;unfold logAt at hw;rw[h.Nj,h.wn,h.log] at hw;have hld:=aAQ E (fun j _=>iF j);rw[h.log,h.size] at hld;obtain⟨_,_,cs,_,_,hcs,_⟩:=h.load;unfold openF;rw[Uj,Aa (by have:=h.n8;omega),Aa (by simp[iE.up]),iE.now,hld];simp only;rw[hw];simp only;rw[Aa (by omega),hcs];simp only;rw[Ac (by omega)];have e:(⟨1,lg D.n,F.w.gen,F.w.used,F.w.groups,0⟩:AO)=F.w:=by
      have a1:=h.Nj;have a2:=h.wn;have a3:=h.wf;have a4:=h.log;cases hF3:F.w;rw[hF3] at a1 a2 a3;simp only at a1 a2 a3;subst a1 a3;rw[a2,a4]
     rw[e,Ac e4,o4,h.log,h.size]
    ·exact absurd hEl l4
  ·have hne:r2.2≠0:=(by rw[e2];decide);rw[Aa hne];refine⟨n2.trans n1,f2,⟨rfl,rfl⟩,.inr ⟨e2,fun e=>l2 (l1 e),e2,rfl,d2,fun keep=>⟨F,_,(hold _ (Zy f2 keep) (n2.trans n1) (fun j hj=>?_)).opens,rfl,by omega,.inl rfl⟩⟩⟩;rw[q2 keep j (.inr (.inr rfl)),q1,Lr _ _ _ _ _ (by omega)]
 ·have hne:r1.2≠0:=by rw[e1];decide
  rw[Aa hne,Aa hne];exact⟨n1,f1,⟨rfl,rfl⟩,.inr ⟨e1,l1,e1,rfl,d1,fun keep=>⟨F,_,(hold _ (Zy f1 keep) n1 (fun j hj=>q1 keep j (by omega))).opens,rfl,by omega,.inl rfl⟩⟩⟩
theorem vT{D:Dsk}{F:St}(h:Calm D F)(vR:F.w.gen < 9223372036854775808){l:List Af}(hl:l.all Af.may=true)(hr:used (made F.m l)≤F.room):vQ D F l (Gl D F l):=by
 have asD:∀ c∈l,c.may=true:=Kl.1 hl;have hu:=h.up.made l;have hg:=h.good.made h.up asD;obtain⟨g1,g2,g3⟩:=Sg h.n8;have WC:=h.log;have aug:=h.size;have hwn:=h.wn;have hwf:=h.Nj;have har:=h.Ak;have hF:=h.disk.fine;unfold Gl;rw[Aa (by simp[h.fault]),Aa (by simp[hl]),Aa (by omega)];by_cases au7:F.fits (group l)=true
 ·rw[Ac au7];unfold St.fits at au7;cases hge:EU (group l) with
  |none=>rw[hge] at au7;cases au7
  |some s=>
   rw[hge] at au7;have au7:s.length / 64≤F.w.n -1 -F.w.used:=(by simpa using au7);have w1:=ah1 h.disk h.Cy h.wf (by omega) (by omega) hge (by omega);generalize wappend D F.w (group l)=r1 at*;obtain⟨num,A,cs,i1,i2,i3,i4⟩:=h.load;rcases w1 with⟨e1,o1,c1,n1,a1,q1,l1⟩|⟨e1,l1,o1,f1,d1,n1,q1⟩
   ·rw[Ac e1];refine⟨n1,c1.fine,⟨rfl,rfl⟩,.inl ⟨rfl,?_,rfl,by rw[o1];show F.w.gen≤_;omega,l1⟩⟩;refine⟨c1,by rw[n1];exact h.n8,by show F.log=lg r1.1.n;rw[n1];exact h.log,by show F.size=sz r1.1.n;rw[n1];exact h.size,h.Ak,by rw[o1];exact h.Nj,by rw[o1];exact h.wn,by rw[o1];exact a1,by rw[o1];exact h.wf,h.fault,hg,hu,hr,num,A,cs++[l],?_,by rw[o1];exact i2,?_,?_⟩
    ·show IU r1.1.base F.log F.size=some (F.Ak,num,A)
     have hb:1+F.log≤BL F.log F.size F.Ak:=(by unfold BL;omega);exact vM i1 (q1 0 (by omega)) (fun j b c=>q1 j (by omega))
    ·rw[o1]
     show ungroups (F.w.groups++[group l])=_
     rw[ah3,i3,vG l asD];rfl
    ·show made F.m l=_
     rw[vL,←i4]
   ·have hne:r1.2.2≠0:=(by rw[e1];decide);rw[Aa hne];refine⟨n1,f1,⟨rfl,rfl⟩,.inr ⟨e1,l1,e1,rfl,d1,fun keep=>⟨F,_,Calm.opens ?_,rfl,by omega,.inl rfl⟩⟩⟩;have hb:1+F.log≤BL F.log F.size F.Ak:=(by unfold BL;omega);exact h.near (Zy f1 keep) n1 (q1 keep).1 (by cases F;rfl) h.Nj rfl h.wf (Ab _) rfl (fun j hj=>(q1 keep).2 j (by omega))
 ·rw[Aa au7];exact ah7 h vR hu hg hr rfl
end Fil
end Go.Proofs.YtmbbhdebddbhoaaGreat
