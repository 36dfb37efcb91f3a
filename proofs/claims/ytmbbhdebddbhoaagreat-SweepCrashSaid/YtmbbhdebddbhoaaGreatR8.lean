/- FilLaw -/
import Derived.Test.YtmbbhdebddbhoaaGreatR7
set_option linter.all false
namespace Go.Proofs.YtmbbhdebddbhoaaGreat
namespace Fil
open Crc (le val EW)
open Wal (pad)
abbrev T:=List UInt8
theorem Rf(a:T):¬ a < a:=List.lt_irrefl a
theorem XA{a b c:T}(h:a < b)(k:b < c):a < c:=List.lt_trans h k
theorem kG(a b:T):a < b∨a=b∨b < a:=by
 by_cases h1:a < b
 ·exact .inl h1
 ·by_cases h2:b < a
  ·exact .inr (.inr h2)
  ·exact .inr (.inl (List.le_antisymm (List.not_lt.1 h2) (List.not_lt.1 h1)))
theorem L6{a b:T}(h:a < b):a≠b:=fun e=>Rf b (by rwa[e] at h)
theorem Qr{a b:T}(h:a < b):¬ b < a:=fun k=>Rf _ (XA h k)
abbrev M:=List (T×T)
def Up(F:M):Prop:=F.Pairwise (fun a b=>a.1 < b.1)
def get(F:M)(k:T):Option T:=(F.find? (fun p=>p.1 == k)).map (·.2)
def del(k:T)(F:M):M:=F.filter (fun p=>!(p.1 == k))
def put(k v:T)(F:M):M:=F.filter (fun p=>decide (p.1 < k))++(k,v) :: F.filter (fun p=>decide (k < p.1))
theorem Up.nil:Up []:=List.Pairwise.nil
theorem Up.nodup{F:M}(h:Up F):(F.map (·.1)).Nodup:=by
 rw[List.nodup_iff_pairwise_ne];exact List.pairwise_map.2 (h.imp fun h=>L6 h)
theorem Up.del{F:M}(h:Up F)(k:T):Up (del k F):=h.filter _
theorem Up.put{F:M}(h:Up F)(k v:T):Up (put k v F):=by
 unfold Fil.put;refine List.pairwise_append.2 ⟨h.filter _,Iw.2 ⟨fun b hb=>?_,h.filter _⟩,fun a ha b hb=>?_⟩
 ·simpa using(Et.1 hb).2
 ·have h1:a.1 < k:=by simpa using(Et.1 ha).2
  rcases Bt.1 hb with rfl|hb
  ·exact h1
  ·exact XA h1 (by simpa using(Et.1 hb).2)
theorem filter_none{F:M}{p:T×T→Bool}(h:∀ x∈F,p x=false):F.filter p=[]:=List.filter_eq_nil_iff.2 fun x hx=>by rw[h x hx];simp
theorem filter_all{F:M}{p:T×T→Bool}(h:∀ x∈F,p x=true):F.filter p=F:=List.filter_eq_self.2 h
theorem aqZ{F:M}(h:Up F)(k:T):del k F=F.filter (fun p=>decide (p.1 < k))++F.filter (fun p=>decide (k < p.1)):=by
 induction F with
 |nil=>rfl
 |cons p F ih=>
  obtain⟨h1,h2⟩:=Iw.1 h;have ih:=ih h2;unfold del at ih ⊢;rcases kG p.1 k with e|e|e
  ·rw[Uv (by simpa using L6 e),Uv (by simpa using e),QA (by simpa using List.not_lt.1 (Qr e)),ih];rfl
  ·have h3:∀ x∈F,k < x.1:=fun x hx=>e▸h1 x hx
   rw[QA (by simpa using e),QA (by rw[e];simp),QA (by rw[e];simp),ih]
  ·have h3:∀ x∈F,k < x.1:=fun x hx=>XA e (h1 x hx)
   rw[Uv (by simpa using Ne.symm (L6 e)),QA (by simpa using List.not_lt.1 (Qr e)),Uv (by simpa using e)];have a1:F.filter (fun p=>decide (p.1 < k))=[]:=filter_none (fun x hx=>by simpa using List.not_lt.1 (Qr (h3 x hx)));have a2:F.filter (fun p=>decide (k < p.1))=F:=filter_all (fun x hx=>by simpa using h3 x hx);have a3:F.filter (fun p=>!(p.1 == k))=F:=filter_all (fun x hx=>by simpa using Ne.symm (L6 (h3 x hx)));rw[a1,a2,a3];rfl
theorem ZF{F:M}(h:Up F)(k v:T):(put k v F).Perm ((k,v) :: del k F):=by
 rw[aqZ h];exact List.perm_middle
theorem get_some{F:M}{k v:T}(h:get F k=some v):(k,v)∈F:=by
 unfold get at h;obtain⟨p,hp,rfl⟩:=Tg.1 h;have h1:=List.find?_some hp;simp at h1;subst h1;exact List.mem_of_find?_eq_some hp
theorem get_mem{F:M}(h:Up F){k v:T}(hm:(k,v)∈F):get F k=some v:=by
 induction F with
 |nil=>simp at hm
 |cons p F ih=>
  obtain⟨h1,h2⟩:=Iw.1 h;unfold get;rcases Bt.1 hm with e|hm
  ·subst e;simp
  ·have:¬ p.1=k:=fun e=>Rf k (by have:=h1 _ hm;rwa[e] at this)
   rw[List.find?_cons_of_neg (by simpa using this)];exact ih h2 hm
theorem get_none{F:M}{k:T}:get F k=none↔∀ p∈F,p.1≠k:=by
 unfold get;rw[Option.map_eq_none_iff,List.find?_eq_none];simp
theorem SV{F:M}(h:Up F){k v:T}{p:T×T}:p∈put k v F↔p=(k,v)∨(p∈F∧p.1≠k):=by
 rw[(ZF h k v).mem_iff,Bt];unfold del;rw[Et];simp
theorem XB{F:M}{k:T}{p:T×T}:p∈del k F↔p∈F∧p.1≠k:=by
 unfold del;rw[Et];simp
theorem get_put{F:M}(h:Up F)(k v j:T):get (put k v F) j=if j=k then some v else get F j:=by
 by_cases e:j=k
 ·subst e;rw[Ab rfl];exact get_mem (h.put _ _) ((SV h).2 (.inl rfl))
 ·rw[Aa e];cases hg:get F j with
  |none=>
   rw[get_none] at hg ⊢;intro p hp;rcases(SV h).1 hp with rfl|⟨hp,_⟩
   ·exact fun e'=>e e'.symm
   ·exact hg p hp
  |some x=>exact get_mem (h.put _ _) ((SV h).2 (.inr ⟨get_some hg,e⟩))
theorem pq{F:M}(h:Up F)(k j:T):get (del k F) j=if j=k then none else get F j:=by
 by_cases e:j=k
 ·subst e;rw[Ab rfl,get_none];exact fun p hp=>(XB.1 hp).2
 ·rw[Aa e];cases hg:get F j with
  |none=>
   rw[get_none] at hg ⊢;exact fun p hp=>hg p (XB.1 hp).1
  |some x=>exact get_mem (h.del _) (XB.2 ⟨get_some hg,e⟩)
theorem ZQ:∀ {F G:M},Up F→Up G→(∀ p,p∈F↔p∈G)→F=G
 |[],[],_,_,_=>rfl
 |[],q :: G,_,_,h=>absurd ((h q).2 Dg) (by simp)
 |p :: F,[],_,_,h=>absurd ((h p).1 Dg) (by simp)
 |p :: F,q :: G,hF,hG,h=>by
  obtain⟨f1,f2⟩:=Iw.1 hF;obtain⟨g1,g2⟩:=Iw.1 hG;have e:p=q:=by
   rcases Bt.1 ((h p).1 Dg) with e|e
   ·exact e
   ·rcases Bt.1 ((h q).2 Dg) with e2|e2
    ·exact e2.symm
    ·exact absurd (g1 _ e) (Qr (f1 _ e2))
  subst e;rw[ZQ f2 g2 (fun x=>?_)];constructor
  ·intro hx;rcases Bt.1 ((h x).1 (DT _ hx)) with e|e
   ·exact absurd (f1 _ hx) (by rw[e];exact Rf _)
   ·exact e
  ·intro hx;rcases Bt.1 ((h x).2 (DT _ hx)) with e|e
   ·exact absurd (g1 _ hx) (by rw[e];exact Rf _)
   ·exact e
structure Aj where
 name:T
 data:T
 gone:Bool
def Fw(name data:T):Bool:=decide (name≠[]∧name.length≤32∧data.length≤65535)
def Aj.may(c:Aj):Bool:=Fw c.name c.data && (!c.gone || c.data.isEmpty)
def Aj.on(F:M)(c:Aj):M:=if c.gone then del c.name F else put c.name c.data F
def made(F:M)(l:List Aj):M:=l.foldl Aj.on F
theorem ac3(F:M)(l:List Aj)(c:Aj):made F (l++[c])=Aj.on (made F l) c:=by unfold made;rw[List.foldl_append];rfl
theorem rZ(F:M)(l k:List Aj):made F (l++k)=made (made F l) k:=by unfold made;rw[List.foldl_append]
theorem Up.on{F:M}(h:Up F)(c:Aj):Up (Aj.on F c):=by unfold Aj.on;split;exact h.del _;exact h.put _ _
theorem Up.made{F:M}(h:Up F)(l:List Aj):Up (made F l):=by
 induction l generalizing F with
 |nil=>exact h
 |cons c l ih=>exact ih (h.on c)
def Good(F:M):Prop:=∀ p∈F,Fw p.1 p.2=true
theorem Good.on{F:M}(h:Good F)(hu:Up F){c:Aj}(hc:c.may=true):Good (Aj.on F c):=by
 unfold Aj.may at hc;simp only[Bool.and_eq_true] at hc;unfold Aj.on;intro p hp;split at hp
 ·exact h p (XB.1 hp).1
 ·rcases(SV hu).1 hp with rfl|⟨hp,_⟩
  ·exact hc.1
  ·exact h p hp
theorem Good.made{F:M}(h:Good F)(hu:Up F){l:List Aj}(hl:∀ c∈l,c.may=true):Good (made F l):=by
 induction l generalizing F with
 |nil=>exact h
 |cons c l ih=>exact ih (h.on hu (hl c Dg)) (hu.on c) (fun x hx=>hl x (DT _ hx))
theorem get_made{F:M}(hu:Up F)(l:List Aj)(k:T):get (made F l) k=match l.reverse.find? (fun c=>c.name == k) with|none=>get F k|some c=>if c.gone then none else some c.data:=by
 induction l generalizing F with
 |nil=>rfl
 |cons c l ih=>
  show get (made (Aj.on F c) l) k=_
  rw[ih (hu.on c),List.reverse_cons,List.find?_append];cases h:l.reverse.find? (fun c=>c.name == k) with
  |some x=>rfl
  |none=>
   simp only[Option.none_or,List.find?_cons,List.find?_nil];by_cases e:c.name=k
   ·subst e;simp only[beq_self_eq_true];unfold Aj.on;split
    ·rw[pq hu,Ab rfl]
    ·rw[get_put hu,Ab rfl]
   ·have e2:(c.name == k)=false:=(by simpa using e);rw[e2];simp only;unfold Aj.on;split
    ·rw[pq hu,Aa (fun h=>e h.symm)]
    ·rw[get_put hu,Aa (fun h=>e h.symm)]
def cost(p:T×T):Nat:=8+p.1.length+p.2.length
def used(F:M):Nat:=4+(F.map cost).sum
def RV(p:T×T):T:=le 4 p.1.length++(p.1++(le 4 p.2.length++p.2))
def bytes(F:M):T:=le 4 F.length++F.flatMap RV
theorem ary(p:T×T):(RV p).length=cost p:=by unfold RV cost;simp[Crc.BK];omega
theorem oO(F:M):(F.flatMap RV).length=(F.map cost).sum:=by
 induction F with
 |nil=>rfl
 |cons p F ih=>rw[List.flatMap_cons,Au,ih,ary];rfl
theorem yA(F:M):(bytes F).length=used F:=by unfold bytes used;rw[Au,Crc.BK,oO]
theorem anI{F:M}{p:T×T}(h:p∈F):cost p+4≤used F:=by
 unfold used;have:cost p≤(F.map cost).sum:=by
  induction F with
  |nil=>simp at h
  |cons q F ih=>
   rw[BL,Dq];rcases Bt.1 h with rfl|h
   ·omega
   ·have:=ih h;omega
 omega
theorem Rn(F:M):4+8*F.length≤used F:=by
 unfold used;have:8*F.length≤(F.map cost).sum:=by
  induction F with
  |nil=>simp
  |cons q F ih=>rw[BL,Dq,Br];unfold cost at ih ⊢;omega
 omega
def cut(s:T):Option (T×T):=if s.length < 4 then none else if val (s.take 4)≤s.length -4 then some ((s.take (4+val (s.take 4))).drop 4,s.drop (4+val (s.take 4))) else none
def mayNext(last:Option T)(k:T):Bool:=match last with|none=>true|some x=>decide (x < k)
def readE:Nat→Option T→T→Option (M×T)
 |0,_,s=>some ([],s)
 |n+1,last,s=>(cut s).bind fun p=>(cut p.2).bind fun q=>if Fw p.1 q.1=true∧mayNext last p.1=true then(readE n (some p.1) q.2).map fun r=>((p.1,q.1) :: r.1,r.2) else none
def read(s:T):Option M:=if s.length < 4 then none else(readE (val (s.take 4)) none (s.drop 4)).bind fun r=>if r.2=[] then some r.1 else none
theorem yX(s R:T)(h:s.length < 4294967296):cut (le 4 s.length++(s++R))=some (s,R):=by
 have e1:(le 4 s.length++(s++R)).take 4=le 4 s.length:=Iz (Crc.BK _ _);have e2:val (le 4 s.length)=s.length:=Wal.XQ 4 _ (by omega);unfold cut;rw[e1,e2,Aa (by simp[Crc.BK]),Ab (by simp[Crc.BK])];have e3:(le 4 s.length++(s++R)).drop 4=s++R:=M0 (Crc.BK _ _);have e4:(le 4 s.length++(s++R)).drop (4+s.length)=R:=by rw[←List.drop_drop,e3,M0 rfl]
 have e5:((le 4 s.length++(s++R)).take (4+s.length)).drop 4=s:=by
  rw[List.drop_take,e3,show 4+s.length -4=s.length by omega,Iz rfl]
 rw[e4,e5]
theorem V4{s p q:T}(h:cut s=some (p,q)):4≤s.length∧p.length+q.length+4=s.length:=by
 unfold cut at h;split at h
 ·cases h
 ·split at h
  ·simp only[BX,M5] at h;obtain⟨rfl,rfl⟩:=h;rw[Ce,Ce,AL];omega
  ·cases h
theorem alU:∀ (F:M) (last:Option T) (R:T),Up F→Good F→(∀ x,last=some x→∀ p∈F,x < p.1)→readE F.length last (F.flatMap RV++R)=some (F,R)
 |[],_,R,_,_,_=>rfl
 |p :: F,last,R,hu,hg,hl=>by
  obtain⟨u1,u2⟩:=Iw.1 hu;have g1:=hg p Dg;have g2:p.1.length≤32∧p.2.length≤65535:=by unfold Fw at g1;simp at g1;exact⟨g1.2.1,g1.2.2⟩
  rw[Br,List.flatMap_cons];unfold readE;have e1:RV p++F.flatMap RV++R=le 4 p.1.length++(p.1++(le 4 p.2.length++(p.2++(F.flatMap RV++R)))):=by unfold RV;simp only[Dp]
  rw[e1,yX _ _ (by omega)];simp only[Cj];rw[yX _ _ (by omega)];simp only[Cj];have hn:mayNext last p.1=true:=by
   cases last with
   |none=>rfl
   |some x=>simpa[mayNext] using hl x rfl p Dg
  rw[Ab ⟨g1,hn⟩,alU F (some p.1) R u2 (fun q hq=>hg q (DT _ hq)) (fun x hx q hq=>by cases hx;exact u1 q hq)];rfl
theorem axY{F:M}(hu:Up F)(hg:Good F)(hn:F.length < 4294967296):read (bytes F)=some F:=by
 unfold read bytes;rw[Aa (by simp[Crc.BK]),Iz (Crc.BK _ _),M0 (Crc.BK _ _),Wal.XQ 4 _ (by omega)];have:=alU F none [] hu hg (fun x e=>by cases e);rw[EH] at this;rw[this];rfl
def TN(g:Bool):UInt8:=if g then 1 else 0
def group(l:List Aj):List T:=l.flatMap fun c=>[TN c.gone :: c.name,c.data]
def ungroup:List T→Option (List Aj)
 |[]=>some []
 |[_]=>none
 |[] :: _ :: _=>none
 |(b :: n) :: d :: l=>if b.toNat≤1∧Aj.may ⟨n,d,b == 1⟩=true then(ungroup l).map (⟨n,d,b == 1⟩ :: ·) else none
theorem asO(l:List Aj)(c:Aj):group (l++[c])=group l++[TN c.gone :: c.name,c.data]:=by unfold group;simp
theorem ah4(l:List Aj):(group l).length=2*l.length:=by
 induction l with
 |nil=>rfl
 |cons c l ih=>show(_ :: _ :: group l).length=_;simp[ih];omega
theorem anv:∀ (l:List Aj),(∀ c∈l,c.may=true)→ungroup (group l)=some l
 |[],_=>rfl
 |c :: l,h=>by
  show ungroup ((TN c.gone :: c.name) :: c.data :: group l)=_
  have hc:=h c Dg;have e:(TN c.gone == 1)=c.gone:=by unfold TN;cases c.gone<;>rfl
  have e2:(TN c.gone).toNat≤1:=by unfold TN;cases c.gone<;>decide
  simp only[ungroup];rw[e,Ab ⟨e2,hc⟩,anv l (fun x hx=>h x (DT _ hx))];rfl
end Fil
section
open Wal
structure Dsk.Calm(D:Dsk):Prop where
 fine:D.BM
 loose:D.loose=[]
 up:D.down=false
theorem Dsk.Calm.Gd{D:Dsk}(h:D.Calm)(keep:List UInt8):D.Gd keep={ D with left:= -1 }:=by
 obtain⟨_,h2,h3⟩:=h;unfold Dsk.Gd Dsk.kept;rw[h2];cases D;simp only at h2 h3;subst h2 h3;rfl
theorem Dsk.Calm.now{D:Dsk}(h:D.Calm):D.now=D.base:=by unfold Dsk.now;rw[h.loose];rfl
theorem Dsk.Calm.left{D:Dsk}(h:D.Calm){n:Int}(h1: -1≤n)(h2:n≤9223372036854775807):({ D with left:=n }:Dsk).Calm:=
 ⟨⟨h.fine.n1,h.fine.n2,h.fine.base,h.fine.loose,⟨h1,h2⟩⟩,h.loose,h.up⟩
theorem afW(a b:List (Dsk→Dsk×Int))(D:Dsk):doS (a++b) D=if(doS a D).2=0 then doS b (doS a D).1 else doS a D:=by
 induction a generalizing D with
 |nil=>simp[doS]
 |cons f a ih=>
  rw[GI,aY,aY];by_cases h:(f D).2=0
  ·rw[Ab h,Ab h,ih]
  ·rw[Aa h,Aa h,Aa h]
def Wrote(D:Dsk)(at_ k:Nat)(s:List UInt8)(r:Dsk×Int):Prop:=
 (r.2=0∧r.1.Calm∧r.1.n=D.n∧r.1.base=Dsk.lay D.base (puts at_ s k)∧(D.left= -1→r.1.left= -1))∨
 (r.2=40∧D.left≠ -1∧r.1.BM∧r.1.down=true∧r.1.n=D.n∧∀ keep,∀ j,j < at_∨at_+k≤j∨k=1→(r.1.Gd keep).base j=D.base j)
theorem aAz(D:Dsk)(a:Nat)(s:List UInt8)(n:Nat)(h:D.left= -1):(Dsk.writes D a s n).2=0∧(Dsk.writes D a s n).1.left= -1:=by
 induction n generalizing D a s with
 |zero=>exact⟨rfl,h⟩
 |succ n ih=>
  simp only[Dsk.writes];rw[Aa (by omega)];exact ih _ _ _ (by show max (D.left -1) (-1)= -1;omega)
theorem lX{D:Dsk}(h:D.Calm){at_ k:Nat}{s:List UInt8}(hs:s.length=64*k)(hk:at_+k≤D.n):Wrote D at_ k s (doS [fun D=>D.write (at_:Int) s,Dsk.flush] D):=by
 have hF:=h.fine;have EP:=hF.n2;have hW:D.write (at_:Int) s=Dsk.writes D at_ s k:=by
  unfold Dsk.write;rw[Aa (by simp[h.up]),Ab ⟨by omega,by simp[Dsk.inside];omega⟩,show s.length / 64=k by omega];rfl
 have hl:=fun e=>aAz D at_ s k e
 obtain⟨w1,w2,w3⟩:=aAB D h.up at_ s k;have hF1:=hF.writes (at_:=at_) (s:=s) (n:=k) (by omega) (by omega);have cO:k=1→(Dsk.writes D at_ s k).2=40→(Dsk.writes D at_ s k).1.loose=[]:=by
  rintro rfl;simp only[Dsk.writes];split
  ·intro _;exact h.loose
  ·intro e;cases e
 rw[aY]
 show Wrote D at_ k s (if(D.write (at_:Int) s).2=0 then _ else D.write (at_:Int) s)
 rw[hW];generalize Dsk.writes D at_ s k=r at*;obtain⟨D1,e1⟩:=r;simp only at*;rcases w3 with⟨rfl,g2,g3⟩|⟨rfl,g2,P,g3,g4⟩
 ·rw[Ab rfl];rw[h.loose,Eu] at g3;have Gx:D1.flush=({ D1 with base:=Dsk.lay D1.base D1.loose,loose:=[] },0):=by unfold Dsk.flush;rw[Aa (by simp[g2])]
  have pO:=hF1.flush;rw[Gx] at pO;rw[aY,Gx,Ab rfl];refine .inl ⟨rfl,⟨pO,rfl,g2⟩,w2,?_,fun e=>(hl e).2⟩
  show Dsk.lay D1.base D1.loose=_
  rw[w1,g3]
 ·rw[Aa (by decide)];refine .inr ⟨rfl,fun e=>by have:=(hl e).1;simp at this,hF1,g2,w2,fun keep j hj=>?_⟩;have e2:(D1.Gd keep).base=Dsk.lay D1.base (Dsk.kept D1 keep):=rfl;rw[e2,abS,w1];intro p hp;have ER:=Dsk.akq 0 _ p hp;rcases hj with hj|hj|hj
  ·rw[g3,h.loose,Eu] at ER;have:=g4 p ER;omega
  ·rw[g3,h.loose,Eu] at ER;have:=g4 p ER;omega
  ·rw[cO hj rfl] at ER;simp at ER
def logAt(f:Nat→List UInt8)(L:Bn):Prop:=IV (Dsk.text f L.from_ L.n) L.n=some (L.gen,L.used,L.groups)
theorem abX{f g:Nat→List UInt8}{L:Bn}(h:logAt f L)(e:∀ j,L.from_≤j→j < L.from_+L.n→g j=f j):logAt g L:=by
 unfold logAt at*;rw[Dsk.Pk (g:=f) _ _ (fun i a b=>e i a b)];exact h
theorem akJ{D:Dsk}(hD:D.BM){L:Bn}(h:logAt D.base L)(h1:1≤L.n)(hn:L.from_+L.n≤D.n){g:Nat→List UInt8}
  (e:∀ j,L.from_≤j→j < L.from_+1+L.used→g j=D.base j):logAt g L:=by
 unfold logAt at*;have F7:(Dsk.text D.base L.from_ L.n).length=64*L.n:=Dsk.lH hD.base _ _ (by omega);have hu:=(kQ h (by omega) h1).1;refine ax0 h (by omega) h1 ?_;obtain⟨m,hm⟩:∃ m,L.n=1+L.used+m:=⟨L.n -(1+L.used),by omega⟩;have e2:=Dsk.Pk (f:=g) (g:=D.base) L.from_ (1+L.used) (fun i a b=>e i a (by omega));rw[hm,Dsk.XN D.base L.from_ (1+L.used) m,Dsk.XN g L.from_ (1+L.used) m,e2];rw[show 64+64*L.used=64*(1+L.used) by omega,Iz (Dsk.Xx (fun i a b=>hD.base i (by omega))),Iz (Dsk.Xx (fun i a b=>hD.base i (by omega)))]
def ao7(D:Dsk)(L:Bn)(l:List (List UInt8))(k:Nat)(r:Dsk×Bn×Int):Prop:=
 (r.2.2=0∧r.2.1=L.grown l k∧r.1.Calm∧r.1.n=D.n∧logAt r.1.base (L.grown l k)∧(∀ j,j < L.from_∨L.from_+L.n≤j→r.1.base j=D.base j)∧(D.left= -1→r.1.left= -1))∨
 (r.2.2=40∧D.left≠ -1∧r.2.1=L.fell 40∧r.1.BM∧r.1.down=true∧r.1.n=D.n∧∀ keep,logAt (r.1.Gd keep).base L∧∀ j,j < L.from_∨L.from_+L.n≤j→(r.1.Gd keep).base j=D.base j)
theorem Qp(f:Nat→List UInt8)(a:Nat)(s:List UInt8)(k j:Nat)(h:j < a∨a+k≤j):Dsk.lay f (puts a s k) j=f j:=abS _ _ _ (fun p hp=>by have:=alR p hp;omega)
theorem abT(f:Nat→List UInt8)(a:Nat)(s:List UInt8)(hs:s.length=64):Dsk.lay f (puts a s 1) a=s:=by
 have:=ad7 f a s 1 (by omega);simpa[Dsk.text] using this
theorem asT{f:Nat→List UInt8}{a n u k:Nat}{s M:List UInt8}(hs:s.length=64*k)(hM:M.length=64)(hk:u+k+1≤n)(hf:∀ i,a≤i→i < a+n→(f i).length=64):
  Dsk.text (Dsk.lay (Dsk.lay f (puts (a+1+u) s k)) (puts a M 1)) a n=M++(((Dsk.text f a n).drop 64).take (64*u)++(s++Dsk.text f (a+1+u+k) (n -1 -u -k))):=by
 obtain⟨m,Mr⟩:∃ m,n=m+1:=⟨n -1,by omega⟩;subst Mr
 show _++Dsk.text _ (a+1) m=_
 rw[abT _ _ _ hM]
 congr 1
 rw[Dsk.Pk (g:=Dsk.lay f (puts (a+1+u) s k)) (a+1) m (fun i a1 a2=>Qp _ _ _ _ _ (by omega))];obtain⟨q,rfl⟩:∃ q,m=u+(k+q):=⟨m -(u+k),by omega⟩;rw[Dsk.XN,Dsk.XN];have t1:Dsk.text (Dsk.lay f (puts (a+1+u) s k)) (a+1) u=((Dsk.text f a (u+(k+q)+1)).drop 64).take (64*u):=by
  rw[Dsk.Pk (g:=f) (a+1) u (fun i a1 a2=>Qp _ _ _ _ _ (by omega))]
  show _=((f a++Dsk.text f (a+1) _).drop 64).take _
  rw[M0 (hf a (by omega) (by omega)),Dsk.XN,Iz (Dsk.Xx (fun i a1 a2=>hf i (by omega) (by omega)))]
 rw[t1,ad7 _ _ _ _ hs,Dsk.Pk (g:=f) (a+1+u+k) q (fun i a1 a2=>Qp _ _ _ _ _ (by omega)),show u+(k+q)+1 -1 -u -k=q by omega]
theorem aAq{D:Dsk}{L:Bn}(h:D.Calm)(hl:logAt D.base L)(hf:L.fault=0)(h2:2≤L.n)(hn:L.from_+L.n≤D.n){l:List (List UInt8)}{s:List UInt8}(hg:GQ l=some s)(Im:¬ L.n -1 -L.used < s.length / 64):
  ao7 D L l (s.length / 64) (wappend D L l):=by
 obtain⟨Va,aBm⟩:=iG hg;have hF:=h.fine;have EP:=hF.n2;have hlen:(Dsk.text D.base L.from_ L.n).length=64*L.n:=Dsk.lH hF.base _ _ (by omega);have hu:=(kQ hl (by omega) (by omega)).1;obtain⟨k,hk⟩:∃ k,k=s.length / 64:=⟨_,rfl⟩;rw[←hk] at Im ⊢;have Cz:s.length=64*k:=by omega
 have hm:=Wal.Nu L.gen (L.used+k);have aaf:L.acts s=[fun D=>D.write ((L.from_+1+L.used:Nat):Int) s,Dsk.flush]++[fun D=>D.write (L.from_:Int) (Wal.mark L.gen (L.used+k)),Dsk.flush]:=by unfold Bn.acts;rw[←hk];rfl
 have aug:wappend D L l=if(doS (L.acts s) D).2=0 then((doS (L.acts s) D).1,L.grown l k,0) else((doS (L.acts s) D).1,L.fell (doS (L.acts s) D).2,(doS (L.acts s) D).2):=by
  unfold wappend;rw[Aa (by simp[hf]),hg];simp only;rw[←hk,Aa Im]
 rw[aug,aaf,afW];have w1:=lX h (at_:=L.from_+1+L.used) (k:=k) (s:=s) Cz (by omega);generalize doS [fun D=>D.write ((L.from_+1+L.used:Nat):Int) s,Dsk.flush] D=r1 at*;rcases w1 with⟨e1,c1,n1,b1,l1⟩|⟨e1,l1,f1,d1,n1,b1⟩
 ·rw[Ab e1];have w2:=lX c1 (at_:=L.from_) (k:=1) (s:=Wal.mark L.gen (L.used+k)) (by omega) (by omega);generalize doS [fun D=>D.write (L.from_:Int) (Wal.mark L.gen (L.used+k)),Dsk.flush] r1.1=r2 at*;rcases w2 with⟨e2,c2,n2,b2,l2⟩|⟨e2,l2,f2,d2,n2,b2⟩
  ·rw[Ab e2];refine .inl ⟨rfl,rfl,c2,n2.trans n1,?_,fun j hj=>?_,fun e=>l2 (l1 e)⟩
   ·have Sq:=awZ hl (by omega) (by omega) (by omega) hg (R:=Dsk.text D.base (L.from_+1+L.used+k) (L.n -1 -L.used -k)) (by omega)
    show IV (Dsk.text _ L.from_ L.n) L.n=some (L.gen,L.used+k,L.groups++[l])
    rw[←hk] at Sq;refine Eq.trans ?_ Sq;rw[b2,b1]
    congr 1
    exact asT Cz hm (by omega) (fun i a b=>hF.base i (by omega))
   ·rw[b2,Qp _ _ _ _ _ (by omega),b1,Qp _ _ _ _ _ (by omega)]
  ·rw[Aa (by rw[e2];decide),e2];refine .inr ⟨rfl,fun e=>l2 (l1 e),rfl,f2,d2,n2.trans n1,fun keep=>⟨?_,fun j hj=>?_⟩⟩
   ·refine akJ hF hl (by omega) hn (fun j a b=>?_);rw[b2 keep j (.inr (.inr rfl)),b1,Qp _ _ _ _ _ (by omega)]
   ·rw[b2 keep j (.inr (.inr rfl)),b1,Qp _ _ _ _ _ (by omega)]
 ·have hne:r1.2≠0:=by rw[e1];decide
  rw[Aa hne,Aa hne,e1];refine .inr ⟨rfl,l1,rfl,f1,d1,n1,fun keep=>⟨?_,fun j hj=>?_⟩⟩
  ·exact akJ hF hl (by omega) hn (fun j a b=>b1 keep j (by omega))
  ·exact b1 keep j (by omega)
def adF(D:Dsk)(L:Bn)(r:Dsk×Bn×Int):Prop:=
 (r.2.2=0∧r.2.1=L.TL∧r.1.Calm∧r.1.n=D.n∧logAt r.1.base L.TL∧(∀ j,j < L.from_∨L.from_+L.n≤j→r.1.base j=D.base j)∧(D.left= -1→r.1.left= -1))∨
 (r.2.2=40∧D.left≠ -1∧r.2.1=L.fell 40∧r.1.BM∧r.1.down=true∧r.1.n=D.n∧∀ keep,∀ j,(r.1.Gd keep).base j=D.base j)
theorem ao5{D:Dsk}{L:Bn}(h:D.Calm)(hf:L.fault=0)(h2:2≤L.n)(hn:L.from_+L.n≤D.n):adF D L (Dm D L):=by
 have hF:=h.fine;have EP:=hF.n2;have hm:=Wal.Nu ((L.gen+1) % 18446744073709551616) 0;have DV:(L.gen+1) % 18446744073709551616 < 18446744073709551616:=Nat.mod_lt _ (by decide);have w1:=lX h (at_:=L.from_) (k:=1) (s:=Wal.mark ((L.gen+1) % 18446744073709551616) 0) (by omega) (by omega);unfold Dm Bn.L9;rw[Aa (by simp[hf])];have qF:L.TL={ L with gen:=(L.gen+1) % 18446744073709551616,used:=0,groups:=[] }:=rfl;unfold adF;rw[qF];generalize (L.gen+1) % 18446744073709551616=g2 at*;generalize doS [fun D=>D.write (L.from_:Int) (Wal.mark g2 0),Dsk.flush] D=r1 at*;rcases w1 with⟨e1,c1,n1,b1,l1⟩|⟨e1,l1,f1,d1,n1,b1⟩
 ·rw[Ab e1];refine .inl ⟨rfl,rfl,c1,n1,?_,fun j hj=>by show r1.1.base j=_;rw[b1,Qp _ _ _ _ _ (by omega)],l1⟩
  show IV (Dsk.text r1.1.base L.from_ L.n) L.n=some (g2,0,[])
  obtain⟨m,Mr⟩:∃ m,L.n=m+1:=⟨L.n -1,by omega⟩;rw[Mr,b1]
  show IV (Dsk.lay D.base (puts L.from_ (Wal.mark g2 0) 1) L.from_++Dsk.text _ (L.from_+1) m) (m+1)=_
  rw[abT _ _ _ hm];exact alg (L:=[]) (S:=[]) DV (by omega) (by decide) rfl rfl
 ·have hne:r1.2≠0:=by rw[e1];decide
  rw[Aa hne,e1];exact .inr ⟨rfl,l1,rfl,f1,d1,n1,fun keep j=>b1 keep j (.inr (.inr rfl))⟩
end
namespace Fil
open Crc (le val EW)
open Wal
structure St where
 log:Nat
 size:Nat
 Av:Nat
 m:M
 w:Bn
 fault:Int
def lg(n:Nat):Nat:=max (n / 8) 2
def sz(n:Nat):Nat:=(n -1 -lg n) / 2
theorem Zt{n:Nat}(h:8≤n):2≤lg n∧2≤sz n∧1+lg n+2*sz n≤n:=by unfold sz lg;omega
def mark(Av num:Nat):T:=pad (EW ([70,73,76,49]++[UInt8.ofNat Av]++le 8 num))
theorem Nu(Av num:Nat):(mark Av num).length=64:=by
 unfold mark;rw[Rh,Crc.Rk];simp[Crc.BK]
def Cs(log size Av:Nat):Nat:=1+log+Av*size
def MH(f:Nat→T)(log size:Nat):Option (Nat×Nat×M):=
 if f 0=pad [0] then some (0,0,[]) else
 if((f 0).getD 4 0).toNat≤1∧f 0=mark ((f 0).getD 4 0).toNat (val (((f 0).take 13).drop 5)) then
  (cut (Dsk.text f (Cs log size ((f 0).getD 4 0).toNat) size)).bind fun p=>(read p.1).map fun m=>(((f 0).getD 4 0).toNat,val (((f 0).take 13).drop 5),m)
 else none
def ungroups:List (List T)→Option (List (List Aj))
 |[]=>some []
 |g :: G=>(ungroup g).bind fun c=>(ungroups G).map (c :: ·)
def Oh(m:M)(cs:List (List Aj)):M:=cs.foldl made m
theorem azK(G:List (List T))(g:List T):ungroups (G++[g])=(ungroups G).bind fun cs=>(ungroup g).map fun c=>cs++[c]:=by
 induction G with
 |nil=>cases h:ungroup g<;>simp[ungroups,h]
 |cons x G ih=>
  rw[GI];simp only[ungroups,ih];cases ungroup x with
  |none=>rfl
  |some a=>
   cases ungroups G with
   |none=>rfl
   |some b=>
    cases ungroup g with
    |none=>rfl
    |some c=>rfl
theorem akP(m:M)(cs:List (List Aj))(c:List Aj):Oh m (cs++[c])=made (Oh m cs) c:=by unfold Oh;rw[List.foldl_append];rfl
theorem adi:∀ (n:Nat) (l:List T) (cs:List Aj),l.length≤n→ungroup l=some cs→∀ c∈cs,c.may=true:=by
 intro n
 induction n with
 |zero=>
  intro l cs hn h c hc;obtain rfl:l=[]:=List.eq_nil_of_length_eq_zero (by omega);simp only[ungroup,BX] at h;subst h;simp at hc
 |succ n ih=>
  intro l cs hn h
  match l,h with
  |[],h=>
   simp only[ungroup,BX] at h;subst h;intro c hc;simp at hc
  |[_],h=>simp[ungroup] at h
  |[] :: _ :: _,h=>simp[ungroup] at h
  |(b :: k) :: d :: l,h=>
   simp only[ungroup] at h;split at h
   ·rename_i hm
    obtain⟨ds,hd,rfl⟩:=Tg.1 h;intro c hc;rcases Bt.1 hc with rfl|hc
    ·exact hm.2
    ·exact ih l ds (by simp at hn;omega) hd c hc
   ·cases h
def openF(D:Dsk):Option St×Dsk×Int:=
 if D.n < 8 then(none,D,2) else if D.down=true then(none,D,40) else
 match MH D.now (lg D.n) (sz D.n) with
 |none=>(none,D,50)
 |some (a,num,m)=>match IV (Dsk.text D.now 1 (lg D.n)) (lg D.n) with
  |none=>(none,D,50)
  |some (g,u,G)=>if 0 < num∧g < num -1 then(none,D,50) else
   match ungroups G with
   |none=>(none,D,50)
   |some cs=>if g < num then
     (if(Dm D ⟨1,lg D.n,g,u,G,0⟩).2.2=0 then(some ⟨lg D.n,sz D.n,a,m,(Dm D ⟨1,lg D.n,g,u,G,0⟩).2.1,0⟩,(Dm D ⟨1,lg D.n,g,u,G,0⟩).1,0)
      else(none,(Dm D ⟨1,lg D.n,g,u,G,0⟩).1,(Dm D ⟨1,lg D.n,g,u,G,0⟩).2.2))
    else(some ⟨lg D.n,sz D.n,a,Oh m cs,⟨1,lg D.n,g,u,G,0⟩,0⟩,D,0)
def PQ(m:M):T:=pad (le 4 (bytes m).length++bytes m)
def GV(F:St)(m:M):List (Dsk→Dsk×Int):=
 [fun D=>D.write ((Cs F.log F.size (1 -F.Av):Nat):Int) (PQ m),Dsk.flush,fun D=>D.write ((0:Nat):Int) (mark (1 -F.Av) ((F.w.gen+1) % 18446744073709551616)),Dsk.flush]
def Og(D:Dsk)(F:St)(m:M):Dsk×St×Int:=
 if(doS (GV F m) D).2=0 then
  if(Dm (doS (GV F m) D).1 F.w).2.2=0 then((Dm (doS (GV F m) D).1 F.w).1,{ F with Av:=1 -F.Av,m:=m,w:=(Dm (doS (GV F m) D).1 F.w).2.1 },0)
  else((Dm (doS (GV F m) D).1 F.w).1,{ F with Av:=1 -F.Av,w:=(Dm (doS (GV F m) D).1 F.w).2.1,fault:=(Dm (doS (GV F m) D).1 F.w).2.2 },(Dm (doS (GV F m) D).1 F.w).2.2)
 else((doS (GV F m) D).1,{ F with Av:=1 -F.Av,fault:=(doS (GV F m) D).2 },(doS (GV F m) D).2)
def St.room(F:St):Nat:=F.size*64 -4
def St.fits(F:St)(l:List T):Bool:=match GQ l with|none=>false|some s=>decide (s.length / 64≤F.w.n -1 -F.w.used)
def J7(D:Dsk)(F:St)(l:List Aj):Dsk×St×Int:=
 if F.fault≠0 then(D,F,F.fault) else if l.all Aj.may=false then(D,F,2) else
 if F.room < used (made F.m l) then(D,F,4) else
 if F.fits (group l)=true then
  if(wappend D F.w (group l)).2.2=0 then((wappend D F.w (group l)).1,{ F with m:=made F.m l,w:=(wappend D F.w (group l)).2.1 },0)
  else((wappend D F.w (group l)).1,{ F with w:=(wappend D F.w (group l)).2.1,fault:=(wappend D F.w (group l)).2.2 },(wappend D F.w (group l)).2.2)
 else Og D F (made F.m l)
structure Calm(D:Dsk)(F:St):Prop where
 disk:D.Calm
 n8:8≤D.n
 log:F.log=lg D.n
 size:F.size=sz D.n
 Av:F.Av≤1
 Qy:F.w.from_=1
 wn:F.w.n=F.log
 Dl:logAt D.base F.w
 wf:F.w.fault=0
 fault:F.fault=0
 good:Good F.m
 up:Up F.m
 room:used F.m≤F.room
 load:∃ num A cs,MH D.base F.log F.size=some (F.Av,num,A)∧num≤F.w.gen∧ungroups F.w.groups=some cs∧F.m=Oh A cs
def aQ(D:Dsk)(F:St)(D':Dsk):Prop:=openF D=(some F,D',0)∧Calm D' F∧D'.n=D.n
theorem Calm.opens{D:Dsk}{F:St}(h:Calm D F):aQ D F D:=by
 refine⟨?_,h,rfl⟩;obtain⟨num,A,cs,h1,h2,h3,h4⟩:=h.load;have hw:=h.Dl;unfold logAt at hw;rw[h.Qy,h.wn,h.log] at hw;rw[h.log,h.size] at h1;unfold openF;rw[Aa (by have:=h.n8;omega),Aa (by simp[h.disk.up]),h.disk.now,h1];simp only;rw[hw];simp only;rw[Aa (by omega),h3];simp only;rw[Aa (by omega),←h4];have e:(⟨1,lg D.n,F.w.gen,F.w.used,F.w.groups,0⟩:Bn)=F.w:=by
  have a1:=h.Qy;have a2:=h.wn;have a3:=h.wf;have a4:=h.log;cases hF:F.w;rw[hF] at a1 a2 a3;simp only at a1 a2 a3;subst a1 a3;rw[a2,a4]
 rw[e];have a1:=h.log;have a2:=h.size;have a3:=h.fault;cases F;simp only at a1 a2 a3;subst a1 a2 a3;rfl
theorem akH{f g:Nat→T}{log size a num:Nat}{A:M}(h:MH f log size=some (a,num,A))(h0:g 0=f 0)(h1:∀ j,Cs log size a≤j→j < Cs log size a+size→g j=f j):MH g log size=some (a,num,A):=by
 unfold MH at*;rw[h0];by_cases h2:f 0=pad [0]
 ·rw[Ab h2] at h ⊢;exact h
 ·rw[Aa h2] at h ⊢;by_cases h3:((f 0).getD 4 0).toNat≤1∧f 0=mark ((f 0).getD 4 0).toNat (val (((f 0).take 13).drop 5))
  ·rw[Ab h3] at h;have ha:((f 0).getD 4 0).toNat=a:=by
    cases hc:cut (Dsk.text f (Cs log size ((f 0).getD 4 0).toNat) size) with
    |none=>rw[hc] at h;cases h
    |some p=>
     rw[hc] at h;simp only[Cj] at h;obtain⟨m,_,e⟩:=Tg.1 h;simp only[M5] at e;exact e.1
   rw[Ab h3,ha,Dsk.Pk (g:=f) _ _ (fun i b c=>h1 i b (by omega))];rw[ha] at h;exact h
  ·rw[Aa h3] at h;cases h
theorem Calm.near{D E:Dsk}{F F':St}(h:Calm D F)(hE:E.Calm)(hn:E.n=D.n)(hl:logAt E.base F'.w)(e:F'={ F with w:=F'.w })(e1:F'.w.from_=1)(e2:F'.w.n=F.w.n)(e3:F'.w.fault=0)(hg:F.w.gen≤F'.w.gen)(hG:F'.w.groups=F.w.groups)
  (hb:∀ j,(j=0∨Cs F.log F.size F.Av≤j∧j < Cs F.log F.size F.Av+F.size)→E.base j=D.base j):Calm E F':=by
 obtain⟨num,A,cs,h1,h2,h3,h4⟩:=h.load;have f1:F'.log=F.log:=by rw[e]
 have f2:F'.size=F.size:=by rw[e]
 have f3:F'.Av=F.Av:=by rw[e]
 have f4:F'.m=F.m:=by rw[e]
 have f5:F'.fault=F.fault:=by rw[e]
 refine⟨hE,by rw[hn];exact h.n8,by rw[f1,hn];exact h.log,by rw[f2,hn];exact h.size,by rw[f3];exact h.Av,e1,by rw[e2,f1];exact h.wn,hl,e3,by rw[f5];exact h.fault,by rw[f4];exact h.good,by rw[f4];exact h.up,by unfold St.room;rw[f4,f2];exact h.room,num,A,cs,?_,by omega,by rw[hG];exact h3,by rw[f4];exact h4⟩;rw[f1,f2,f3];exact akH h1 (hb 0 (.inl rfl)) (fun j a b=>hb j (.inr ⟨a,b⟩))
theorem Calm.Gd{D:Dsk}{F:St}(h:Calm D F)(keep:List UInt8):Calm (D.Gd keep) F:=by
 rw[h.disk.Gd];exact h.near (h.disk.left (by omega) (by omega)) rfl h.Dl (by cases F;rfl) h.Qy rfl h.wf (Ac _) rfl (fun _ _=>rfl)
theorem Calm.PX{D:Dsk}{F:St}(h:Calm D F){n:Int}(hn:n≤9223372036854775807):Calm (D.PX n) F:=
 h.near (h.disk.left (n:=max n (-1)) (by omega) (by omega)) rfl h.Dl (by cases F;rfl) h.Qy rfl h.wf (Ac _) rfl (fun _ _=>rfl)
theorem ax5:pad [0]=List.replicate 64 0:=rfl
theorem Calm.new{n:Nat}(h8:8≤n)(hn:n≤16384):Calm (Dsk.new n) ⟨lg n,sz n,0,[],⟨1,lg n,0,0,[],0⟩,0⟩:=by
 obtain⟨h1,h2,h3⟩:=Zt h8;refine⟨⟨Dsk.BM.new (by omega) hn,rfl,rfl⟩,h8,rfl,rfl,AB _,rfl,rfl,?_,rfl,rfl,fun p hp=>by simp at hp,Up.nil,by unfold used St.room;simp;omega,0,[],[],?_,Ac _,rfl,rfl⟩
 ·show IV (Dsk.text (fun _=>MK) 1 (lg n)) (lg n)=some (0,0,[])
  rw[Dsk.ane];unfold IV;have e:(List.replicate (64*lg n) (0:UInt8)).take 64=pad [0]:=by
   rw[List.take_replicate,H8 (by omega)];rfl
  rw[e,Ab rfl]
 ·show MH (fun _=>MK) _ _=_
  unfold MH;exact Ab rfl
theorem Zv(a num:Nat):∃ z,mark a num=[70,73,76,49]++([UInt8.ofNat a]++(le 8 num++z)):=by
 unfold mark pad Crc.EW;simp only[Dp];exact⟨_,rfl⟩
theorem akT(a num:Nat)(ha:a≤1):(mark a num).getD 4 0=UInt8.ofNat a∧((mark a num).getD 4 0).toNat=a:=by
 obtain⟨z,e⟩:=Zv a num;have e1:(mark a num).getD 4 0=UInt8.ofNat a:=by rw[e];rfl
 exact⟨e1,by rw[e1,XO,Nat.mod_eq_of_lt (by omega)]⟩
theorem akU(a num:Nat)(hn:num < 18446744073709551616):val (((mark a num).take 13).drop 5)=num:=by
 obtain⟨z,e⟩:=Zv a num;have e1:((mark a num).take 13).drop 5=le 8 num:=by
  rw[e,←Dp,List.drop_take,M0 (show([70,73,76,49]++[UInt8.ofNat a]).length=5 from rfl),Iz (by rw[Crc.BK])]
 rw[e1];exact XQ 8 _ (by omega)
theorem si(a num:Nat):mark a num≠pad [0]:=fun h=>by
 obtain⟨z,e⟩:=Zv a num;rw[e,ax5] at h;have:=congrArg (fun l=>l.head?) h;simp at this
theorem aw3{f:Nat→T}{log size a num:Nat}{m:M}{R:T}(ha:a≤1)(hn:num < 18446744073709551616)(hu:Up m)(hg:Good m)(hb:used m < 4294967296)(h0:f 0=mark a num)(h1:Dsk.text f (Cs log size a) size=le 4 (bytes m).length++(bytes m++R)):MH f log size=some (a,num,m):=by
 unfold MH;rw[h0,Aa (si a num),(akT a num ha).2,akU a num hn,Ab ⟨ha,rfl⟩,h1,yX _ _ (by rw[yA];exact hb)];simp only[Cj];rw[axY hu hg (by have:=Rn m;omega)];rfl
theorem afc(m:M):(PQ m).length=(4+used m+63) / 64*64:=by
 unfold PQ;rw[Rh,Au,Crc.BK,yA]
theorem aq1(m:M):∃ z,PQ m=le 4 (bytes m).length++(bytes m++z):=by
 unfold PQ pad;exact⟨_,by rw[Dp]⟩
structure adB(D:Dsk)(F:St)(l:List Aj)(r:Dsk×St×Int):Prop where
 n:r.1.n=D.n
 fine:r.1.BM
 same:r.2.1.log=F.log∧r.2.1.size=F.size
 out:(r.2.2=0∧Calm r.1 r.2.1∧r.2.1.m=made F.m l∧r.2.1.w.gen≤F.w.gen+1∧(D.left= -1→r.1.left= -1))∨
  (r.2.2=40∧D.left≠ -1∧r.2.1.fault=40∧r.2.1.m=F.m∧r.1.down=true∧∀ keep,∃ F' D',aQ (r.1.Gd keep) F' D'∧D'.left= -1∧F'.w.gen≤F.w.gen+1∧(F'.m=F.m∨F'.m=made F.m l))
theorem nZ{D:Dsk}(h:D.BM)(keep:List UInt8):(D.Gd keep).Calm:=⟨h.Gd keep,rfl,rfl⟩
theorem avR{D:Dsk}{F:St}(h:Calm D F)(aiD:F.w.gen < 9223372036854775808){m:M}(hu:Up m)(hg:Good m)(hr:used m≤F.room){l:List Aj}(hm:m=made F.m l):adB D F l (Og D F m):=by
 obtain⟨g1,g2,g3⟩:=Zt h.n8;have jE:=h.log;have Jc:=h.size;have hF:=h.disk.fine;have EP:=hF.n2;have hl:=h.Dl;have hwn:=h.wn;have hwf:=h.Qy;have iZ:=h.Av;unfold St.room at hr;have hA:(1 -F.Av)≤1:=by omega
 have qf:=afc m;obtain⟨k,hk⟩:∃ k,(PQ m).length=64*k:=⟨(4+used m+63) / 64,by omega⟩;have hk2:k≤F.size:=by omega
 have atA:Cs F.log F.size (1 -F.Av)+F.size≤D.n∧1+F.log≤Cs F.log F.size (1 -F.Av)∧(Cs F.log F.size F.Av+F.size≤Cs F.log F.size (1 -F.Av)∨Cs F.log F.size (1 -F.Av)+F.size≤Cs F.log F.size F.Av):=by
  unfold Cs;rcases Nat.lt_or_ge F.Av 1 with e|e
  ·obtain e0:F.Av=0:=(by omega);rw[e0];omega
  ·obtain e0:F.Av=1:=(by omega);rw[e0];omega
 obtain⟨b1,b2,b3⟩:=atA;have Nl:(F.w.gen+1) % 18446744073709551616=F.w.gen+1:=Nat.mod_eq_of_lt (by omega);have EC:=Nu (1 -F.Av) (F.w.gen+1);have aaf:GV F m=[fun D=>D.write ((Cs F.log F.size (1 -F.Av):Nat):Int) (PQ m),Dsk.flush]++[fun D=>D.write ((0:Nat):Int) (mark (1 -F.Av) (F.w.gen+1)),Dsk.flush]:=by unfold GV;rw[Nl];rfl
 have hold:∀ E:Dsk,E.Calm→E.n=D.n→(∀ j,j < Cs F.log F.size (1 -F.Av)∨Cs F.log F.size (1 -F.Av)+F.size≤j→E.base j=D.base j)→Calm E F:=fun E hE hn hb=>
  h.near hE hn (abX hl (fun j c d=>hb j (.inl (by omega)))) (by cases F;rfl) h.Qy rfl h.wf (Ac _) rfl (fun j hj=>hb j (by rcases hj with rfl|hj;exact .inl (by omega);omega))
 unfold Og;rw[aaf,afW];have w1:=lX h.disk (at_:=Cs F.log F.size (1 -F.Av)) (k:=k) (s:=PQ m) hk (by omega);generalize doS [fun D=>D.write ((Cs F.log F.size (1 -F.Av):Nat):Int) (PQ m),Dsk.flush] D=r1 at*;rcases w1 with⟨e1,c1,n1,q1,l1⟩|⟨e1,l1,f1,d1,n1,q1⟩
 ·rw[Ab e1];have w2:=lX c1 (at_:=0) (k:=1) (s:=mark (1 -F.Av) (F.w.gen+1)) (by omega) (by omega);generalize doS [fun D=>D.write ((0:Nat):Int) (mark (1 -F.Av) (F.w.gen+1)),Dsk.flush] r1.1=r2 at*;rcases w2 with⟨e2,c2,n2,q2,l2⟩|⟨e2,l2,f2,d2,n2,q2⟩
  ·rw[Ab e2];have A8:∀ j,j≠0→(j < Cs F.log F.size (1 -F.Av)∨Cs F.log F.size (1 -F.Av)+F.size≤j)→r2.1.base j=D.base j:=fun j h0 hj=>by
    rw[q2,Qp _ _ _ _ _ (by omega),q1,Qp _ _ _ _ _ (by omega)]
   have FV:logAt r2.1.base F.w:=abX hl (fun j c d=>A8 j (by omega) (.inl (by omega)));have w3:=ao5 c2 (L:=F.w) h.wf (by omega) (by omega);obtain⟨z,ez⟩:=aq1 m;have aj5:∀ E:Dsk,(∀ j,j < 1∨1+F.log≤j→E.base j=r2.1.base j)→MH E.base F.log F.size=some (1 -F.Av,F.w.gen+1,m):=fun E hE=>by
    refine aw3 (R:=z++Dsk.text D.base (Cs F.log F.size (1 -F.Av)+k) (F.size -k)) hA (by omega) hu hg (by omega) ?_ ?_
    ·rw[hE 0 (by omega),q2,abT _ _ _ EC]
    ·obtain⟨q,hq⟩:∃ q,F.size=k+q:=⟨F.size -k,by omega⟩;have e3:Dsk.text E.base (Cs F.log F.size (1 -F.Av)) F.size=Dsk.text (Dsk.lay D.base (puts (Cs F.log F.size (1 -F.Av)) (PQ m) k)) (Cs F.log F.size (1 -F.Av)) F.size:=by
      refine Dsk.Pk _ _ (fun i c d=>?_);rw[hE i (by omega),q2,Qp _ _ _ _ _ (by omega),q1]
     rw[e3];generalize Cs F.log F.size (1 -F.Av)=B at*;rw[hq,Dsk.XN,ad7 _ _ _ _ hk,Dsk.Pk (g:=D.base) (B+k) q (fun i c d=>Qp _ _ _ _ _ (by omega)),ez,show k+q -k=q by omega];simp only[Dp]
   generalize Dm r2.1 F.w=r3 at*;have qF:F.w.TL=⟨1,F.log,F.w.gen+1,0,[],0⟩:=by
    unfold Bn.TL;rw[Nl];have a1:=h.Qy;have a2:=h.wn;have a3:=h.wf;cases pO:F.w;rw[pO] at a1 a2 a3;simp only at a1 a2 a3 ⊢;subst a1 a2 a3;rfl
   have ai2:∀ E:Dsk,E.Calm→E.n=D.n→logAt E.base (⟨1,F.log,F.w.gen+1,0,[],0⟩:Bn)→(∀ j,j < 1∨1+F.log≤j→E.base j=r2.1.base j)→Calm E ⟨F.log,F.size,1 -F.Av,m,⟨1,F.log,F.w.gen+1,0,[],0⟩,0⟩:=fun E hE hn hw hb=>
    ⟨hE,by rw[hn];exact h.n8,by rw[hn];exact h.log,by rw[hn];exact h.size,hA,rfl,rfl,hw,rfl,rfl,hg,hu,hr,F.w.gen+1,m,[],aj5 E hb,Ac _,rfl,rfl⟩
   rcases w3 with⟨e3,o3,c3,n3,g3,q3,l3⟩|⟨e3,l3,o3,f3,d3,n3,q3⟩
   ·rw[Ab e3];rw[qF] at o3 g3;refine⟨n3.trans (n2.trans n1),c3.fine,⟨rfl,rfl⟩,.inl ⟨rfl,?_,hm,by rw[o3];exact Ac _,fun e=>l3 (l2 (l1 e))⟩⟩;have:=ai2 r3.1 c3 (n3.trans (n2.trans n1)) g3 (fun j hj=>q3 j (by omega));rw[o3];have air:=h.fault;cases F;simp only at air;subst air;exact this
   ·have hne:r3.2.2≠0:=(by rw[e3];decide);rw[Aa hne];refine⟨n3.trans (n2.trans n1),f3,⟨rfl,rfl⟩,.inr ⟨e3,fun e=>l3 (l2 (l1 e)),e3,rfl,d3,fun keep=>?_⟩⟩;have bA:(r3.1.Gd keep).n=D.n:=n3.trans (n2.trans n1);have zY:=nZ f3 keep;have zZ:=q3 keep;have WR:(r3.1.Gd keep).left= -1:=rfl;generalize r3.1.Gd keep=E at*;have hlE:logAt E.base F.w:=abX FV (fun j _ _=>zZ j);have w4:=ao5 zY (L:=F.w) h.wf (by omega) (by omega);rcases w4 with⟨e4,o4,c4,n4,g4,q4,l4⟩|⟨_,l4,_⟩
    ·rw[qF] at o4 g4;refine⟨_,_,⟨?_,ai2 (Dm E F.w).1 c4 (n4.trans bA) g4 (fun j hj=>(q4 j (by omega)).trans (zZ j)),n4⟩,l4 WR,Ac _,.inr hm⟩;have hw:=hlE;unfold logAt at hw;rw[h.Qy,h.wn,h.log] at hw;have qQ:=aj5 E (fun j _=>zZ j);rw[h.log,h.size] at qQ;obtain⟨_,_,cs,_,_,Dv,_⟩:=h.load;unfold openF;rw[bA,Aa (by have:=h.n8;omega),Aa (by simp[zY.up]),zY.now,qQ];simp only;rw[hw];simp only;rw[Aa (by omega),Dv];simp only;rw[Ab (by omega)];have e:(⟨1,lg D.n,F.w.gen,F.w.used,F.w.groups,0⟩:Bn)=F.w:=by
      have a1:=h.Qy;have a2:=h.wn;have a3:=h.wf;have a4:=h.log;cases hF3:F.w;rw[hF3] at a1 a2 a3;simp only at a1 a2 a3;subst a1 a3;rw[a2,a4]
     rw[e,Ab e4,o4,h.log,h.size]
    ·exact absurd WR l4
  ·have hne:r2.2≠0:=(by rw[e2];decide);rw[Aa hne];refine⟨n2.trans n1,f2,⟨rfl,rfl⟩,.inr ⟨e2,fun e=>l2 (l1 e),e2,rfl,d2,fun keep=>⟨F,_,(hold _ (nZ f2 keep) (n2.trans n1) (fun j hj=>?_)).opens,rfl,by omega,.inl rfl⟩⟩⟩;rw[q2 keep j (.inr (.inr rfl)),q1,Qp _ _ _ _ _ (by omega)]
 ·have hne:r1.2≠0:=by rw[e1];decide
  rw[Aa hne,Aa hne];exact⟨n1,f1,⟨rfl,rfl⟩,.inr ⟨e1,l1,e1,rfl,d1,fun keep=>⟨F,_,(hold _ (nZ f1 keep) n1 (fun j hj=>q1 keep j (by omega))).opens,rfl,by omega,.inl rfl⟩⟩⟩
theorem afv{D:Dsk}{F:St}(h:Calm D F)(aiD:F.w.gen < 9223372036854775808){l:List Aj}(hl:l.all Aj.may=true)(hr:used (made F.m l)≤F.room):adB D F l (J7 D F l):=by
 have AY:∀ c∈l,c.may=true:=Nz.1 hl;have hu:=h.up.made l;have hg:=h.good.made h.up AY;obtain⟨g1,g2,g3⟩:=Zt h.n8;have jE:=h.log;have Jc:=h.size;have hwn:=h.wn;have hwf:=h.Qy;have iZ:=h.Av;have hF:=h.disk.fine;unfold J7;rw[Aa (by simp[h.fault]),Aa (by simp[hl]),Aa (by omega)];by_cases IJ:F.fits (group l)=true
 ·rw[Ab IJ];unfold St.fits at IJ;cases IL:GQ (group l) with
  |none=>rw[IL] at IJ;cases IJ
  |some s=>
   rw[IL] at IJ;have IJ:s.length / 64≤F.w.n -1 -F.w.used:=(by simpa using IJ);have w1:=aAq h.disk h.Dl h.wf (by omega) (by omega) IL (by omega);generalize wappend D F.w (group l)=r1 at*;obtain⟨num,A,cs,i1,i2,i3,i4⟩:=h.load;rcases w1 with⟨e1,o1,c1,n1,a1,q1,l1⟩|⟨e1,l1,o1,f1,d1,n1,q1⟩
   ·rw[Ab e1];refine⟨n1,c1.fine,⟨rfl,rfl⟩,.inl ⟨rfl,?_,rfl,by rw[o1];show F.w.gen≤_;omega,l1⟩⟩;refine⟨c1,by rw[n1];exact h.n8,by show F.log=lg r1.1.n;rw[n1];exact h.log,by show F.size=sz r1.1.n;rw[n1];exact h.size,h.Av,by rw[o1];exact h.Qy,by rw[o1];exact h.wn,by rw[o1];exact a1,by rw[o1];exact h.wf,h.fault,hg,hu,hr,num,A,cs++[l],?_,by rw[o1];exact i2,?_,?_⟩
    ·show MH r1.1.base F.log F.size=some (F.Av,num,A)
     have hb:1+F.log≤Cs F.log F.size F.Av:=(by unfold Cs;omega);exact akH i1 (q1 0 (by omega)) (fun j b c=>q1 j (by omega))
    ·rw[o1]
     show ungroups (F.w.groups++[group l])=_
     rw[azK,i3,anv l AY];rfl
    ·show made F.m l=_
     rw[akP,←i4]
   ·have hne:r1.2.2≠0:=(by rw[e1];decide);rw[Aa hne];refine⟨n1,f1,⟨rfl,rfl⟩,.inr ⟨e1,l1,e1,rfl,d1,fun keep=>⟨F,_,Calm.opens ?_,rfl,by omega,.inl rfl⟩⟩⟩;have hb:1+F.log≤Cs F.log F.size F.Av:=(by unfold Cs;omega);exact h.near (nZ f1 keep) n1 (q1 keep).1 (by cases F;rfl) h.Qy rfl h.wf (Ac _) rfl (fun j hj=>(q1 keep).2 j (by omega))
 ·rw[Aa IJ];exact avR h aiD hu hg hr rfl
end Fil
end Go.Proofs.YtmbbhdebddbhoaaGreat
