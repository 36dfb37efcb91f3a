/- SwMk SwMkW -/
import Derived.Test.YtmbbhdebddbhoaaGreatQ43
set_option maxHeartbeats 8000000
set_option maxRecDepth 100000
set_option linter.all false
namespace Go.Proofs.YtmbbhdebddbhoaaGreat
open Tryz
namespace Hv
open Go.RowKit Go.Maps
open Wal Fil Prs Kp BH Hex Sha Al Mem Dep GL
open Man hiding T
theorem TP{α:Type}(f:α→Nat):∀ (S l:List α),S.Nodup→(∀ x∈S,x∈l)→(S.map f).sum≤(l.map f).sum
 |[],l,_,_=>Ar _
 |x :: S,l,hn,hs=>by
  obtain⟨a,b,e⟩:=List.append_of_mem (hs x Cc);have hx:=(Hu.1 hn).1
  have ih:=TP f S (a++b) (Hu.1 hn).2 (fun y hy=>by
   have h1:=hs y (Dh _ hy);rw[e] at h1;rcases Ee.1 h1 with h|h
   ·exact List.mem_append_left _ h
   ·rcases AZ.1 h with h|h
    ·subst h;exact absurd hy hx
    ·exact List.mem_append_right _ h)
  rw[e];simp only[Bg,Cx,C8,Ht] at ih ⊢;omega
theorem aec(f:T→Nat)(l:List T):((Az l).map f).sum≤(l.map f).sum:=TP f _ _ (SX l) (fun x hx=>(Df l x).1 hx)
theorem aed(l:List T):(Az l).length≤l.length:=by
 have h:=aec (fun _=>1) l;have e:∀ l:List T,(l.map fun _=>1).sum=l.length:=fun l=>by
  induction l with
  |nil=>rfl
  |cons x l ih=>rw[Bg,Cx,ih,AX];omega
 rw[e,e] at h;exact h
theorem apq(k v:T):∀ l:M,BO (put k v l)≤BO l+(4+k.length+v.length):=by
 intro l;have h1:BO (l.filter fun p=>decide (p.1 < k))+BO (l.filter fun p=>decide (k < p.1))≤BO l:=by
  induction l with
  |nil=>exact Ar _
  |cons x l ih=>
   have e:∀ (y:T×T) (m:M),BO (y :: m)=(4+y.1.length+y.2.length)+BO m:=fun _ _=>rfl
   rw[List.filter_cons,List.filter_cons];by_cases h1:x.1 < k
   ·rw[Ac (by simpa using h1),Aa (by simpa using Lp h1),e,e];omega
   ·rw[Aa (by simpa using h1),e];split
    ·rw[e];omega
    ·omega
 have h2:BO (put k v l)=BO (l.filter fun p=>decide (p.1 < k))+((4+k.length+v.length)+BO (l.filter fun p=>decide (k < p.1))):=by
  unfold put BO;rw[C8,Ht,Bg,Cx]
 omega
theorem aee(K:Kind)(S:List T)(hn:S.Nodup)(l:M):(S.map fun x=>BO (AR K l x)).sum≤BO l:=by
 induction l using OU with
 |h0=>
  have:∀ S:List T,(S.map fun x=>BO (AR K [] x)).sum=0:=fun S=>by
   induction S with
   |nil=>rfl
   |cons x S ih=>rw[Bg,Cx,ih];rfl
  rw[this];exact Ar _
 |h1 l p ih=>
  have e1:BO (l++[p])=BO l+(4+p.1.length+p.2.length):=by unfold BO;rw[C8,Ht];simp
  rw[e1];have key:∀ S:List T,S.Nodup→(S.map fun x=>BO (AR K (l++[p]) x)).sum≤(S.map fun x=>BO (AR K l x)).sum+(if K.nm p.1∈S then 4+p.1.length+p.2.length else 0):=by
   intro S
   induction S with
   |nil=>intro _;exact Ar _
   |cons x S ih2=>
    intro hn;have h2:=ih2 (Hu.1 hn).2;have hx:=(Hu.1 hn).1;simp only[Bg,Cx];rw[Js];by_cases e:K.nm p.1=x
    ·rw[Ac e,Ac (by rw[e];exact Cc)];rw[Aa (by rw[e];exact hx)] at h2;have:=apq p.1 p.2 (AR K l x);omega
    ·rw[Aa e];by_cases e2:K.nm p.1∈S
     ·rw[Ac e2] at h2;rw[Ac (Dh _ e2)];omega
     ·rw[Aa e2] at h2;rw[Aa (by intro f;rcases AZ.1 f with f|f;exact e f;exact e2 f)];omega
  have:=key S hn;have h3:(if K.nm p.1∈S then 4+p.1.length+p.2.length else 0)≤4+p.1.length+p.2.length:=by split<;>omega
  omega
theorem apr{l:M}{d:T}(h:Bc l=some d):d.length=6+BO l:=by
 unfold Bc at h;cases hp:DX l with
 |none=>rw[hp] at h;cases h
 |some s=>
  rw[hp] at h;simp only[BI] at h;split at h
  ·simp only[Bt] at h;subst h;unfold DX at hp;split at hp
   ·cases ht:textsE (flat l) with
    |none=>rw[ht] at hp;cases hp
    |some a=>
     rw[ht] at hp;simp only[Dm,Bt] at hp;have h6:=Pk ht;rw[dM] at h6;subst hp;unfold Crc.Du;rw[Aj,Crc.Be,Aj,Crc.Be];omega
   ·cases hp
  ·cases h
theorem YG{K:Kind}(hK:K.Bf)(l:M):Eb (DF K l)≤31*l.length+BO l:=by
 have h1:=aee K (Az (l.map fun p=>K.nm p.1)) (SX _) l;have h2:=aed (l.map fun p=>K.nm p.1);rw[BQ] at h2;have h3:∀ S:List T,(∀ x∈S,∃ p∈l,K.nm p.1=x)→Eb (S.map (IC K l))≤31*S.length+(S.map fun x=>BO (AR K l x)).sum:=by
  intro S
  induction S with
  |nil=>intro _;exact Ar _
  |cons x S ih=>
   intro hS;have h4:=ih (fun y hy=>hS y (Dh _ hy));obtain⟨p,_,hp⟩:=hS x Cc;have e:Eb ((x :: S).map (IC K l))=(8+x.length+((Bc (AR K l x)).getD []).length)+Eb (S.map (IC K l)):=by
    unfold Eb;rw[Bg,Bg,Cx];rfl
   have hxl:x.length=17:=(by rw[←hp];exact hK.len _);have hd:((Bc (AR K l x)).getD []).length≤6+BO (AR K l x):=by
    cases hc:Bc (AR K l x) with
    |none=>exact Ar _
    |some d=>rw[Option.getD_some,apr hc];exact Ab _
   rw[e,Bg,Cx,AX];omega
 have h5:=h3 (Az (l.map fun p=>K.nm p.1)) (fun x hx=>by
  rw[Df] at hx;obtain⟨p,hp,e⟩:=AV.1 hx;exact⟨p,hp,e⟩)
 show Eb ((Az (l.map fun p=>K.nm p.1)).map (IC K l))≤_
 omega
theorem aef(l:M):BO l=4*l.length+Gr l:=by
 unfold BO Gr
 induction l with
 |nil=>rfl
 |cons p l ih=>
  rw[Bg,Cx,Bg,Cx,AX,ih];omega
theorem aps{l:List T}{s:T}(h:textsE l=some s):∀ t∈l,t.length≤65535:=by
 induction l generalizing s with
 |nil=>intro t ht;simp at ht
 |cons x l ih=>
  simp only[textsE] at h;cases h1:CO x with
  |none=>rw[h1] at h;cases h
  |some a=>
   rw[h1,BI] at h;cases h2:textsE l with
   |none=>rw[h2] at h;cases h
   |some b=>
    intro t ht;rcases AZ.1 ht with rfl|ht
    ·unfold CO at h1;split at h1
     ·assumption
     ·cases h1
    ·exact ih h2 t ht
theorem aeg{u:T×List T}(h:(BK (Az u.2)).2=0):(L6 u).2.length≤2+16*J7 u.2:=by
 obtain⟨s,hs⟩:=JD.1 (anj.1 h);have e:(L6 u).2=s:=by
  show(BK (Az u.2)).1=s
  unfold BK;rw[hs]
 rw[e];unfold Er at hs;split at hs
 ·cases ht:textsE (Az u.2) with
  |none=>rw[ht] at hs;cases hs
  |some a=>
   rw[ht] at hs;simp only[Dm,Bt] at hs;have h6:=Pk ht;have h7:=aps ht;have h8:s.length=2+a.length:=(by rw[←hs,Aj,Crc.Be]);have h9:((Az u.2).map fun s=>2+s.length).sum≤16*((Az u.2).map fun s=>2+min s.length 4096).sum:=by
    clear hs ht h6 e h
    revert h7
    generalize Az u.2=l;intro h7
    induction l with
    |nil=>exact Ar _
    |cons x l ih=>
     have h1:=ih (fun t ht=>h7 t (Dh _ ht));have h2:=h7 x Cc;rw[Bg,Cx,Bg,Cx];omega
   have h10:=aec (fun s=>2+min s.length 4096) u.2;have h11:J7 u.2=(u.2.map fun s=>2+min s.length 4096).sum:=rfl;have h12:=Ah h9 (Nat.mul_le_mul_left 16 h10);unfold rowLen at h6;rw[h8,h6,h11];omega
 ·cases hs
theorem apt{l:Us}(h:J6 l):BO (AJ l)≤6*l.length+16*Fh l:=by
 induction l with
 |nil=>exact Ar _
 |cons u l ih=>
  have h1:=ih (fun x hx=>h x (Dh _ hx));have h2:=aeg (h u Cc);have e1:BO (AJ (u :: l))=(4+u.1.length+(L6 u).2.length)+BO (AJ l):=rfl;have e2:Fh (u :: l)=(u.1.length+J7 u.2)+Fh l:=rfl;rw[e1,e2,AX];omega
theorem apu{fz:Bool}{w:World}{b y n N:Nat}{bl:Nat→Prop}{A:M}{a:Option Addr}{cap:Nat}{l:List Af}(h:Eo fz w b y bl n N A)(hN:N < 1000000000)(hL:D7 w a l)(hlen:l.length≤100000)(aC7:∀ c∈l,c.name.length≤maxLen∧c.data.length≤maxLen)(P5:l.all Af.may=true→Eb l≤900000):
  Calls prog 32 #[.pointer (some ⟨y,0,none⟩),.slice a l.length cap] w fun e w'=>∃ c:Int,e=.returned (.int .i64 c)∧∃ Bv,Ow fz w' b y Bv n (N+1) A (EL n A l,DN n A l) c∧A7 (FB w bl) w w'∧∀ k,Bv k→bl k∨w.heap.size≤k:=by
 have hup:=h.up;obtain⟨D,fp,m,x,gv,F,h1,h2,h3,h4,h5,h6,h7,h8,h9⟩:=h;have au4:=SC hup.2.2.2.2;have EJ:=PG hup.1 l;have hrr:F.room=Br n:=by unfold St.room Br;rw[h4.size,h6]
 have hgw:=yL l;have EW:=Ml A;have EX:D.loose.length=0:=by rw[h4.disk.loose];rfl
 have key:Calls prog 32 #[.pointer (some ⟨y,0,none⟩),.slice a l.length cap] w fun e w'=>NA w y b m x gv fp (Gl D F l) e w':=by
  by_cases asD:l.all Af.may=true
  ·have hw:=P5 asD;have hok:∀ c∈l,c.name.length≤1000000∧c.data.length≤maxLen:=fun c hc=>by
    have h1:=(Kl.1 asD) c hc;unfold Af.may E9 at h1;simp only[Bool.and_eq_true,decide_eq_true_eq] at h1;unfold maxLen;omega
   have hsm:=ky D F l (by omega) (by rw[h8];omega);exact yj h1 h2 h3 hL hlen hok h4.good (by rw[h8];omega) (by rw[h8];omega) (by rw[h4.size];have:=h4.disk.fine.n2;unfold sz;omega) (by omega) (by omega) (by have:=yN h4;omega) h4.fault asD
  ·exact yh h1 h2 h3 hL hlen aC7 h4.fault (by simpa using asD)
 refine key.mono ?_;rintro e w'⟨m',⟨he,fp',Dz,p1,p2,p3,p4,p5,p6⟩,hm'⟩;refine⟨_,he,fun k=>bl k∨w.heap.size≤k,?_,p4.mono (fun k hk=>yM h1 h2 h9 k hk),fun k hk=>hk⟩;have hbl:∀ k,fp' k∨Pq y m' x Dz k→bl k∨w.heap.size≤k:=by
  rintro k (hk|hk|hk|hk)
  ·exact(p5 k hk).imp (fun e=>h9 k (.inl e)) id
  ·exact .inl (h9 k (.inr (.inl hk)))
  ·subst hk;exact hm'.imp (fun e=>h9 _ (.inr (.inr (.inl e)))) id
  ·exact(p6 k hk).imp (fun e=>h9 k (.inr (.inr (.inr e)))) id
 by_cases asD:l.all Af.may=true
 ·have hw:=P5 asD;have hsm:=ky D F l (by omega) (by rw[h8];omega);by_cases hr:used (made F.m l)≤F.room
  ·have hc:=vT h4 (by omega) asD hr;have aw7:EL n A l=0:=(by unfold EL;rw[Aa (by simp[asD]),Aa (by rw[←h8,←hrr];omega)]);have auC:DN n A l=made A l:=(by unfold DN;rw[Ac ⟨asD,by rw[←h8,←hrr];exact hr⟩]);rw[aw7,auC];rcases hc.out with⟨o1,o2,o3,o4,o5⟩|⟨o1,o2,o3,o4,o5,o6⟩
   ·exact .inl ⟨o1,_,fp',m',x,Dz,_,p1,p2,p3,o2,fun e=>o5 (h5 e),hc.n.trans h6,by omega,by rw[←h8];exact o3,hbl⟩
   ·refine .inr ⟨?_,o1,rfl,_,fp',m',x,Dz,_,p1,p2,p3,o3,by omega,hc.n.trans h6,⟨hup.2.1,hup.2.2.1,hup.2.2.2.2⟩,o4.trans h8,fun keep=>?_,hbl⟩
    ·cases fz with
     |false=>exact absurd (h5 rfl) o2
     |true=>rfl
    ·obtain⟨F',D',q1,q2,q3,q4⟩:=o6 keep;exact⟨F',D',q1,q2,by omega,by rw[←h8];exact q4⟩
  ·have e1:Gl D F l=(D,F,4):=by
    unfold Gl;rw[Aa (by simp[h4.fault]),Aa (by simp[asD]),Ac (by omega)]
   have aw7:EL n A l=4:=(by unfold EL;rw[Aa (by simp[asD]),Ac (by rw[←h8,←hrr];omega)]);have auC:DN n A l=A:=(by unfold DN;rw[Aa (fun e=>hr (by rw[h8,hrr];exact e.2))]);rw[e1] at p1 p2 ⊢;rw[aw7,auC];exact .inl ⟨rfl,D,fp',m',x,Dz,F,p1,p2,p3,h4,h5,h6,by omega,h8,hbl⟩
 ·have hl2:l.all Af.may=false:=by simpa using asD
  have e1:Gl D F l=(D,F,2):=by
   unfold Gl;rw[Aa (by simp[h4.fault]),Ac hl2]
  have aw7:EL n A l=2:=by unfold EL;rw[Ac hl2]
  have auC:DN n A l=A:=by unfold DN;rw[Aa (fun e=>asD e.1)]
  rw[e1] at p1 p2 ⊢;rw[aw7,auC];exact .inl ⟨rfl,D,fp',m',x,Dz,F,p1,p2,p3,h4,h5,h6,by omega,h8,hbl⟩
section
variable {B:Nat}{w0 w w':World}{b y n N r:Nat}{A A' R R':M}{L:List (Nat×Obj)}
structure Duo(B:Nat)(w0 W:World)(b y n N:Nat)(A:M)(r:Nat)(R:M)(L:List (Nat×Obj)):Prop where
 x:PI B w0 W b y n N A (fun k=>k=r∨∃ o,(k,o)∈L)
 at_:∀ k o,(k,o)∈L→W.heap[k]?=some o
 rf:∃ v,F8 W r v R (Br n)
 ne:∀ o,(r,o)∉L
 ge:B≤r
theorem Duo.step(h:Duo B w0 w b y n N A r R L)(hb:Bw w w'):Duo B w0 w' b y n N A r R L:=by
 obtain⟨v,hv⟩:=h.rf;exact⟨h.x.step hb,fun k o ho=>(hb.block k (BZ.1 (h.at_ k o ho)).1).trans (h.at_ k o ho),⟨v,hv.below hb⟩,h.ne,h.ge⟩
theorem Duo.pick(h:Duo B w0 w b y n N A r R L):∃ bl,PH w b y bl n N A∧(∀ k,bl k→k < w.heap.size)∧∀ {N':Nat} {A':M} {w':World},Goes w b y bl n N' A' w'→Duo B w0 w' b y n N' A' r R L:=by
 obtain⟨⟨h1,h2,hx,bl,h3,h4⟩,ha,⟨v,hv⟩,hn,hg⟩:=h;refine⟨_,h3.shrink,fun k hk=>hk.2,fun {N' A' w'} ⟨Bv,g1,g2,g3⟩=>?_⟩;obtain⟨k1,k2⟩:=PI.turn h1 h2 hx (fun k hk=>h4 k hk.1) g1 g2 g3;exact⟨k1,fun k o ho=>(k2 k (.inr ⟨o,ho⟩)).trans (ha k o ho),⟨v,hv.ko g2⟩,hn,hg⟩
theorem Duo.ref(h:Duo B w0 w b y n N A r R L){v':Value}(hr:F8 w' r v' R' (Br n))(hu:A7 (fun k=>k=r) w w'):Duo B w0 w' b y n N A r R' L:=by
 obtain⟨⟨h1,h2,hx,bl,h3,h4⟩,ha,⟨v,hv⟩,hn,hg⟩:=h;refine⟨⟨Bu h1 hu (fun k hk=>by subst hk;exact hg) h2,Ah h2 hu.size,fun k hk=>Di (hx k hk) hu.size,bl,h3.upd hu (fun k hk e=>?_) (fun k hk e=>(h4 k hk).2 (.inl e)),h4⟩,fun k o ho=>?_,⟨v',hr⟩,hn,hg⟩
 ·subst e;exact Ap.ne hk ⟨_,_,hv.1⟩ (by decide) rfl
 ·exact(hu.block k (BZ.1 (ha k o ho)).1 (fun e=>by subst e;exact hn o ho)).trans (ha k o ho)
theorem Duo.Ao(h:Duo B w0 w b y n N A r R L):Below B w0 w:=h.x.1
theorem Duo.cell(h:Duo B w0 w b y n N A r R L){k:Nat}{cs:Array Value}{t:TypeId}(hm:(k,.cells cs t)∈L)(i:Nat):w.cell? ⟨k,i,none⟩=cs[i]? :=AY w k i cs t _ (h.at_ _ _ hm)
theorem Duo.new(h:Duo B w0 w b y n N A r R L)(o:Obj):Duo B w0 (w.alloc o) b y n N A r R ((w.heap.size,o) :: L):=by
 have hs:=h.step (Am w o);obtain⟨⟨h1,h2,hx,bl,h3,h4⟩,ha,⟨v,hv⟩,hn,hg⟩:=h;have hb:=Am w o;have hsz:(w.alloc o).heap.size=w.heap.size+1:=Ai _ _;refine⟨⟨h1.trans (hb.mono h2),Ah h2 hb.size,fun k hk=>?_,fun k=>bl k∧k < w.heap.size,h3.shrink.below hb,fun k hk=>⟨(h4 k hk.1).1,fun hk2=>?_⟩⟩,fun k o' ho=>?_,hs.rf,fun o' ho=>?_,hg⟩
 ·rcases hk with e|⟨o',ho⟩
  ·have:=hx k (.inl e);omega
  ·rcases AZ.1 ho with e|e
   ·cases e;omega
   ·have:=hx k (.inr ⟨o',e⟩);omega
 ·rcases hk2 with e|⟨o',ho⟩
  ·exact(h4 k hk.1).2 (.inl e)
  ·rcases AZ.1 ho with e|e
   ·cases e;have:=hk.2;omega
   ·exact(h4 k hk.1).2 (.inr ⟨o',e⟩)
 ·rcases AZ.1 ho with e|e
  ·cases e;exact Aq w o
  ·exact hs.at_ k o' e
 ·rcases AZ.1 ho with e|e
  ·have:=hx r (.inl rfl);cases e;omega
  ·exact hn o' e
theorem aeh(h:Bl B w0 w b y n N A L)(hb:Bw w w'){p:Nat}{o:Obj}(hp:w.heap.size≤p)(ho:w'.heap[p]?=some o):Bl B w0 w' b y n N A ((p,o) :: L):=by
 have hs:=h.step hb;obtain⟨⟨h1,h2,hx,bl,h3,h4⟩,ha⟩:=h;refine⟨⟨h1.trans (hb.mono h2),Ah h2 hb.size,fun k ⟨o',ho'⟩=>?_,fun k=>bl k∧k < w.heap.size,h3.shrink.below hb,fun k hk=>⟨(h4 k hk.1).1,fun⟨o',ho'⟩=>?_⟩⟩,fun k o' ho'=>?_⟩
 ·rcases AZ.1 ho' with e|e
  ·cases e;exact(BZ.1 ho).1
  ·have:=hx k ⟨o',e⟩;have:=hb.size;omega
 ·rcases AZ.1 ho' with e|e
  ·cases e;have:=hk.2;omega
  ·exact(h4 k hk.1).2 ⟨o',e⟩
 ·rcases AZ.1 ho' with e|e
  ·cases e;exact ho
  ·exact hs.at_ k o' e
theorem apv(h:Bl B w0 w b y n N A L)(hb:Bw w w'){v:Value}(hr:F8 w' r v R (Br n))(hp:w.heap.size≤r):Duo B w0 w' b y n N A r R L:=by
 have hs:=h.step hb;obtain⟨⟨h1,h2,hx,bl,h3,h4⟩,ha⟩:=h;refine⟨⟨h1.trans (hb.mono h2),Ah h2 hb.size,fun k hk=>?_,fun k=>bl k∧k < w.heap.size,h3.shrink.below hb,fun k hk=>⟨(h4 k hk.1).1,fun hk2=>?_⟩⟩,hs.at_,⟨v,hr⟩,fun o ho=>?_,Ah h2 hp⟩
 ·rcases hk with e|⟨o',ho'⟩
  ·subst e;exact Ae hr.1
  ·have:=hx k ⟨o',ho'⟩;have:=hb.size;omega
 ·rcases hk2 with e|⟨o',ho'⟩
  ·have:=hk.2;omega
  ·exact(h4 k hk.1).2 ⟨o',ho'⟩
 ·have:=hx r ⟨o,ho⟩;omega
theorem Duo.k(h:Duo B w0 w b y n N A r R L):Bl B w0 w b y n N A L:=by
 obtain⟨⟨h1,h2,hx,bl,h3,h4⟩,ha,_⟩:=h;exact⟨⟨h1,h2,fun k ⟨o,ho⟩=>hx k (.inr ⟨o,ho⟩),bl,h3,fun k hk=>⟨(h4 k hk).1,fun⟨o,ho⟩=>(h4 k hk).2 (.inr ⟨o,ho⟩)⟩⟩,ha⟩
def CQ(y:Nat):Obj:=.cells #[.pointer (some ⟨y,0,none⟩)] 134
def CR(y:Nat):Obj:=.cells #[.pointer (some ⟨y,0,none⟩)] 136
theorem apw(n:Nat)(h8:8≤n)(hn:n≤16384)(w:World):Calls prog 26 #[.int .i64 (n:Int)] w fun e w'=>∃ b y p,e=.returned (.tuple #[.pointer (some ⟨y,0,none⟩),.pointer (some ⟨p,0,none⟩)])∧Bl w.heap.size w w' b y n 0 [] [(p,CQ y)]:=by
 go_enter func26,ntmps26;go_wp2_with fail;refine(ajq n (by omega) (by omega)).mono ?_;rintro e w1⟨b,fp,rfl,hd1,aAk,hn1⟩;have HD1:=Hi hd1;have HB1:=Hi aAk;have Td:=Hi hn1;clear hd1 aAk hn1;go_wp2_with fail;refine(ajr HB1 HB1.size (n:=n) h8 hn HD1 Td).mono ?_;rintro e w2⟨y,rfl,h2⟩;have H2:=Hi h2;clear h2 HD1 Td HB1;go_wp2_with fail;refine(alf y _).mono ?_;rintro e w3⟨p,rfl,hm,hp,hb3⟩;have H3:=Hi (aeh (Bl.of H2) hb3 hp hm);clear hb3 H2 hm hp;go_wp2_with fail;go_ret2;exact⟨b,y,p,rfl,H3⟩
end
section
variable {B:Nat}{w0 w w':World}{b y n N r p:Nat}{A A' R R':M}{L:List (Nat×Obj)}{a:Option Addr}{cap:Nat}
theorem Duo.more{N':Nat}(h:Duo B w0 w b y n N A r R L)(hN:N≤N'):Duo B w0 w b y n N' A r R L:=by
 obtain⟨bl,h1,_,h3⟩:=h.pick;exact h3 ⟨bl,h1.more hN,A7.refl _ _,fun k hk=>.inl hk⟩
theorem qW{l:List Af}(h:Duo B w0 w b y n N A r R L)(hN:N < 1000000000)(hL:D7 w a l)(hlen:l.length≤100000)(hok:∀ c∈l,c.name.length≤maxLen∧c.data.length≤maxLen)(P5:l.all Af.may=true→Eb l≤900000):
  Calls prog 32 #[.pointer (some ⟨y,0,none⟩),.slice a l.length cap] w fun e w'=>e=.returned (.int .i64 (EL n A l))∧Duo B w0 w' b y n (N+1) (DN n A l) r R L:=by
 obtain⟨bl,h1,_,h3⟩:=h.pick;refine(apu h1 hN hL hlen hok P5).mono ?_;rintro e w'⟨c,rfl,Bv,g1,g2,g3⟩;obtain⟨rfl,g4⟩:=g1.calm;exact⟨rfl,h3 ⟨Bv,g4,g2,g3⟩⟩
theorem apx{l:List Af}(h:Duo B w0 w b y n N A r R L)(hu:Up R)(hn:n≤16384)(hA:used R≤Br n)(hL:D7 w a l)(hlen:l.length≤100000)(hok:∀ c∈l,c.name.length≤maxLen∧c.data.length≤maxLen)(P5:l.all Af.may=true→Eb l≤900000):
  Calls prog 33 #[.pointer (some ⟨r,0,none⟩),.slice a l.length cap] w fun e w'=>e=.returned (.int .i64 (EL n R l))∧Duo B w0 w' b y n N A r (DN n R l) L:=by
 obtain⟨v,hv⟩:=h.rf;refine(aob hv hu hL hn hA hlen hok (fun e=>Ah (P5 e) (by omega))).mono ?_;rintro e w'⟨rfl,v',g1,g2⟩;exact⟨rfl,h.ref g1 g2⟩
theorem aei{K:Kind}(hK:K.Bf){l:M}(h:Fits K l):∀ c∈DF K l,c.name.length≤maxLen∧c.data.length≤maxLen:=fun c hc=>by
 have h1:=Kl.1 (abu hK h) c hc;unfold Af.may E9 at h1;simp only[Bool.and_eq_true,decide_eq_true_eq] at h1;unfold maxLen;omega
theorem aej(K:Kind)(l:M):(DF K l).length≤l.length:=by
 unfold DF;rw[BQ];exact Ah (aed _) (by rw[BQ];exact Ab _)
theorem apy{l:M}(h:Duo B w0 w b y n N A r R L)(hN:N < 1000000000)(hp:(p,CQ y)∈L)(hno:∀ k,Fil.get A (A9.nm k)=none)(hk:Av w a l)(hl:l.length≤20)(hs:Gr l≤262144)(hsm:∀ j name,Small (AR A9 (l.take j) name)):
  Calls prog 28 #[.pointer (some ⟨p,0,none⟩),.slice a l.length cap] w fun e w'=>e=.returned (.int .i64 (EG A9 n A l).1)∧Duo B w0 w' b y n (N+1) (EG A9 n A l).2 r R L:=by
 obtain⟨bl,h1,_,_⟩:=h.pick;have hwl:Eb (DF A9 l)≤900000:=by
  have h2:=YG J3 l;have h3:=aef l;omega
 refine(amo (Q:=fun c w'=>c=(EG A9 n A l).1∧Duo B w0 w' b y n (N+1) (EG A9 n A l).2 r R L) (h.at_ _ _ hp) (Xh h1) hno hk (by omega) (fun x hx=>by have:=ad8 l x hx;omega) hsm (fun W hb=>ay (h1.below hb)) (fun hf w' hb=>?_) (fun hf W q c hb hc=>?_)).mono ?_
 ·unfold EG;rw[Aa hf];exact⟨rfl,(h.step hb).more (by omega)⟩
 ·have hcm:=aej A9 l;refine(qW (h.step hb) hN hc (by omega) (aei J3 hf) (fun _=>hwl)).mono ?_;rintro e w'⟨rfl,g⟩;refine⟨_,rfl,?_⟩;unfold EG;rw[Ac hf];exact⟨rfl,g⟩
 ·rintro e w' ⟨c,rfl,rfl,g⟩;exact⟨rfl,g⟩
theorem apz{l:M}(h:Duo B w0 w b y n N A r R L)(hu:Up R)(hn:n≤16384)(hA:used R≤Br n)(hno:∀ k,Fil.get R (A9.nm k)=none)(hk:Av w a l)(hl:l.length≤20)(hs:Gr l≤262144)(hsm:∀ j name,Small (AR A9 (l.take j) name)):
  Calls prog 29 #[.pointer (some ⟨r,0,none⟩),.slice a l.length cap] w fun e w'=>e=.returned (.int .i64 (EG A9 n R l).1)∧Duo B w0 w' b y n N A r (EG A9 n R l).2 L:=by
 obtain⟨v,hv⟩:=h.rf;refine(aoS hv hu hno hn hA hk hl (fun x hx=>by have:=ad8 l x hx;omega) hsm).mono ?_;rintro e w'⟨rfl,v',g1,g2⟩;exact⟨rfl,h.ref g1 g2⟩
theorem apA{l:Us}(h:Duo B w0 w b y n N A r R L)(hN:N < 1000000000)(hp:(p,CR y)∈L)(hno:∀ k,Fil.get A (A8.nm k)=none)(hk:IJ w a l)(hl:l.length≤20)(hks:∀ u∈l,u.2.length≤30)(hs:Fh l≤16384)(hsm:∀ j name,Small (AR A8 (AJ (l.take j)) name)):
  Calls prog 30 #[.pointer (some ⟨p,0,none⟩),.slice a l.length cap] w fun e w'=>e=.returned (.int .i64 (F9 n A l).1)∧Duo B w0 w' b y n (N+1) (F9 n A l).2 r R L:=by
 obtain⟨bl,h1,_,_⟩:=h.pick;have hwl:J6 l→Eb (DF A8 (AJ l))≤900000:=fun hr=>by
  have h2:=YG FH (AJ l);have h3:=apt hr;rw[Ke] at h2;omega
 refine(anz (Q:=fun c w'=>c=(F9 n A l).1∧Duo B w0 w' b y n (N+1) (F9 n A l).2 r R L) (h.at_ _ _ hp) (Xh h1) hno hk (by omega) (fun x hx=>⟨by have:=adf l x hx;omega,by have:=hks x hx;omega⟩) hsm (fun W hb=>ay (h1.below hb)) (fun hf w' hb=>?_) (fun hf W q c hb hc=>?_)).mono ?_
 ·have e:F9 n A l=(5,A):=by
   unfold F9 EG;by_cases hr:J6 l
   ·rw[Ac hr,Aa (fun g=>hf ⟨hr,g⟩)]
   ·rw[Aa hr]
  rw[e];exact⟨rfl,(h.step hb).more (by omega)⟩
 ·have hcm:=aej A8 (AJ l);rw[Ke] at hcm;refine(qW (h.step hb) hN hc (by omega) (aei FH hf.2) (fun _=>hwl hf.1)).mono ?_;rintro e w'⟨rfl,g⟩;refine⟨_,rfl,?_⟩;unfold F9 EG;rw[Ac hf.1,Ac hf.2];exact⟨rfl,g⟩
 ·rintro e w' ⟨c,rfl,rfl,g⟩;exact⟨rfl,g⟩
theorem apB{l:Us}(h:Duo B w0 w b y n N A r R L)(hu:Up R)(hn:n≤16384)(hA:used R≤Br n)(hno:∀ k,Fil.get R (A8.nm k)=none)(hk:IJ w a l)(hl:l.length≤20)(hks:∀ u∈l,u.2.length≤30)(hs:Fh l≤16384)(hsm:∀ j name,Small (AR A8 (AJ (l.take j)) name)):
  Calls prog 31 #[.pointer (some ⟨r,0,none⟩),.slice a l.length cap] w fun e w'=>e=.returned (.int .i64 (F9 n R l).1)∧Duo B w0 w' b y n N A r (F9 n R l).2 L:=by
 obtain⟨v,hv⟩:=h.rf;refine(apj hv hu hno hn hA hk hl (fun x hx=>⟨by have:=adf l x hx;omega,by have:=hks x hx;omega⟩) hsm).mono ?_;rintro e w'⟨rfl,v',g1,g2⟩;exact⟨rfl,h.ref g1 g2⟩
theorem aek{l:List Af}(h:l.all Af.may=true)(h10:l.length≤10)(hd:Ie l≤4096):Eb l≤900000:=by
 have key:∀ l:List Af,l.all Af.may=true→Eb l≤40*l.length+Ie l:=by
  intro l
  induction l with
  |nil=>intro _;exact Ar _
  |cons c l ih=>
   intro h;rw[List.all_cons,Bool.and_eq_true] at h;have h1:=ih h.2;have h2:=h.1;unfold Af.may E9 at h2;simp only[Bool.and_eq_true,decide_eq_true_eq] at h2;have e1:Eb (c :: l)=(8+c.name.length+c.data.length)+Eb l:=rfl;have e2:Ie (c :: l)=c.data.length+Ie l:=rfl;rw[e1,e2,AX];omega
 have:=key l h;omega
theorem ael{K:Kind}{l:M}{name:T}{C:Nat}(hl:l.length≤1000)(hc:BO l≤C)(hC:C≤900000000):Small (AR K l name):=by
 have hn:(AR K l name).Nodup:=List.nodup_iff_pairwise_ne.2 ((show List.Pairwise (fun a b:T×T=>a.1 < b.1) (AR K l name) from NU l name).imp fun {a b} (h:a.1 < b.1) (e:a=b)=>I1 h (congrArg Prod.fst e));have hs:∀ x∈AR K l name,x∈l:=fun x hx=>(bX l name x hx).2
 have h1:=TP (fun _=>1) _ _ hn hs;have h2:=TP (fun q:T×T=>4+q.1.length+q.2.length) _ _ hn hs;have e:∀ l:M,(l.map fun _=>1).sum=l.length:=fun l=>by
  induction l with
  |nil=>rfl
  |cons x l ih=>rw[Bg,Cx,ih,AX];omega
 rw[e,e] at h1;have h3:BO (AR K l name)≤BO l:=h2;refine⟨by omega,?_⟩;rw[dM];omega
theorem qX(l:M)(j:Nat):BO (l.take j)≤BO l:=by
 have h:BO l=BO (l.take j)+BO (l.drop j):=by
  conv=>lhs;rw[←Ja j l]
  unfold BO;rw[C8,Ht]
 omega
theorem aem(l:Us):BO (AJ l)≤6*l.length+16*Fh l:=by
 induction l with
 |nil=>exact Ar _
 |cons u l ih=>
  have h2:(L6 u).2.length≤2+16*J7 u.2:=by
   by_cases h:(BK (Az u.2)).2=0
   ·exact aeg h
   ·have:(L6 u).2=[]:=by
     show(BK (Az u.2)).1=[]
     unfold BK at h ⊢;cases hr:Er (Az u.2) with
     |none=>rfl
     |some s=>rw[hr] at h;exact absurd rfl h
    rw[this];exact Ar _
  have e1:BO (AJ (u :: l))=(4+u.1.length+(L6 u).2.length)+BO (AJ l):=rfl;have e2:Fh (u :: l)=(u.1.length+J7 u.2)+Fh l:=rfl;rw[e1,e2,AX];omega
theorem aen{l:M}(hl:l.length≤20)(hs:Gr l≤262144)(j:Nat)(name:T):Small (AR A9 (l.take j) name):=by
 have h1:=qX l j;have h2:=aef l;exact ael (by rw[Aw];omega) (Ah h1 (Ab _)) (by omega)
theorem aeo{l:Us}(hl:l.length≤20)(hs:Fh l≤16384)(j:Nat)(name:T):Small (AR A8 (AJ (l.take j)) name):=by
 rw[dO];have h1:=qX (AJ l) j;have h2:=aem l;exact ael (by rw[Aw,Ke];omega) (Ah h1 (Ab _)) (by omega)
def VR(n:Nat)(l:M)(us:Us)(fs:List Af):M:=DN n (F9 n (EG A9 n [] l).2 us).2 fs
theorem Bl.lower{B2:Nat}{w2:World}(h:Bl B w0 w b y n N A L)(hb:Below B2 w2 w0)(hB:B2≤B):Bl B2 w2 w b y n N A L:=by
 obtain⟨⟨h1,h2,hx,bl,h3,h4⟩,ha⟩:=h;exact⟨⟨hb.trans (h1.mono hB),Ah hB h2,hx,bl,h3,fun k hk=>⟨Ah hB (h4 k hk).1,(h4 k hk).2⟩⟩,ha⟩
end
def Ed(y p d r:Nat):Obj:=.cells #[.pointer (some ⟨y,0,none⟩),.pointer (some ⟨p,0,none⟩),.pointer (some ⟨d,0,none⟩),.pointer (some ⟨r,0,none⟩)] 40
theorem aep{n:Nat}{a ua fa:Option Addr}{cap uc fc:Nat}{l:M}{us:Us}{fs:List Af}{w:World}(La:dY n l us fs)(hL:Av w a l)(hU:IJ w ua us)(hF:D7 w fa fs)(OZ:∀ c∈fs,c.name.length≤maxLen∧c.data.length≤maxLen):
  Calls prog 7 #[.agg #[.int .i64 (n:Int),.slice a l.length cap,.slice ua us.length uc,.slice fa fs.length fc]] w fun e w'=>∃ b y p d r xb,e=.returned (.tuple #[.pointer (some ⟨xb,0,none⟩),.bool true])∧Bl w.heap.size w w' b y n 3 (VR n l us fs) [(xb,Ed y p d r),(d,CR y),(p,CQ y)]:=by
 have Fp:=Hi La;have HL:=Hi hL;have HU:=Hi hU;have HF:=Hi hF;have Yp:=Hi OZ;have h8:8≤n:=by have:=La.n8;omega
 have ad9:n≤200:=by have:=La.n200;omega
 clear La hL hU hF OZ;go_enter func7,ntmps7;go_wp2_with fail;have HB0:=Hi (Am w (.cells #[.int .i64 (n:Int),.slice a l.length cap,.slice ua us.length uc,.slice fa fs.length fc] 26));have hx:=Aq w (.cells #[.int .i64 (n:Int),.slice a l.length cap,.slice ua us.length uc,.slice fa fs.length fc] 26);generalize Yk:w.alloc (.cells #[.int .i64 (n:Int),.slice a l.length cap,.slice ua us.length uc,.slice fa fs.length fc] 26)=wa at*;have HX:Hid (∀ wr,Bw wa wr→wr.cell? ⟨w.heap.size,0,none⟩=some (.int .i64 (n:Int))∧wr.cell? ⟨w.heap.size,1,none⟩=some (.slice a l.length cap)∧wr.cell? ⟨w.heap.size,2,none⟩=some (.slice ua us.length uc)∧wr.cell? ⟨w.heap.size,3,none⟩=some (.slice fa fs.length fc)):=Hi fun wr hb=>by
  have hk:w.heap.size < wa.heap.size:=(BZ.1 hx).1;refine⟨(hb.cell (p:=⟨w.heap.size,0,none⟩) hk).trans ?_,(hb.cell (p:=⟨w.heap.size,1,none⟩) hk).trans ?_,(hb.cell (p:=⟨w.heap.size,2,none⟩) hk).trans ?_,(hb.cell (p:=⟨w.heap.size,3,none⟩) hk).trans ?_⟩<;>(unfold World.cell?;rw[hx];rfl)
 clear Yk hx;refine(apw n h8 (by omega) wa).mono ?_;rintro e w1⟨b,y,p,rfl,h1⟩;have H1:=Hi h1;clear h1;go_wp2_with fail;refine(alK y w1).mono ?_;rintro e w2⟨d,rfl,hd,hdp,hb2⟩;have H2:=Hi (aeh H1 hb2 hdp (o:=CR y) hd);clear hd hdp hb2 H1;obtain⟨c0,c1,c2,c3⟩:=HX _ H2.Ao;go_wp2_with fail;refine(akF n h8 (by omega) w2).mono ?_;rintro e w3⟨r,rfl,hr,hrp,hb3⟩;have H3:=Hi (apv H2 hb3 hr hrp);clear hr hrp hb3 H2 c0 c1 c2 c3;have H4:=Hi (H3.new (Ed y p d r));have HC:Hid (∀ (W:World) (N:Nat) (A R:M),Duo wa.heap.size wa W b y n N A r R [(w3.heap.size,Ed y p d r),(d,CR y),(p,CQ y)]→W.cell? ⟨w.heap.size,1,none⟩=some (.slice a l.length cap)∧W.cell? ⟨w.heap.size,2,none⟩=some (.slice ua us.length uc)∧W.cell? ⟨w.heap.size,3,none⟩=some (.slice fa fs.length fc)∧W.cell? ⟨w3.heap.size,3,none⟩=some (.pointer (some ⟨r,0,none⟩))):=Hi fun W N A R h=>by
  obtain⟨_,x1,x2,x3⟩:=HX _ h.Ao;exact⟨x1,x2,x3,by have:=h.cell (k:=w3.heap.size) (t:=40) (Cc) 3;exact this⟩
 have RV:Hid (∀ (W:World) (R:M),Duo wa.heap.size wa W b y n 0 [] r R [(w3.heap.size,Ed y p d r),(d,CR y),(p,CQ y)]→Calls prog 28 #[.pointer (some ⟨p,0,none⟩),.slice a l.length cap] W fun e w'=>e=.returned (.int .i64 (EG A9 n [] l).1)∧Duo wa.heap.size wa w' b y n 1 (EG A9 n [] l).2 r R [(w3.heap.size,Ed y p d r),(d,CR y),(p,CQ y)]):=Hi fun W R h=>
  apy h (by omega) (by simp) (fun k=>rfl) (HL.below (HB0.trans (h.Ao.mono HB0.size))) Fp.dZ Fp.ed (aen Fp.dZ Fp.ed)
 have HR1:Hid (∀ (W:World) (N:Nat) (A:M),Duo wa.heap.size wa W b y n N A r [] [(w3.heap.size,Ed y p d r),(d,CR y),(p,CQ y)]→Calls prog 29 #[.pointer (some ⟨r,0,none⟩),.slice a l.length cap] W fun e w'=>e=.returned (.int .i64 (EG A9 n [] l).1)∧Duo wa.heap.size wa w' b y n N A r (EG A9 n [] l).2 [(w3.heap.size,Ed y p d r),(d,CR y),(p,CQ y)]):=Hi fun W N A h=>
  apz h Up.nil (by omega) (by unfold Br sz lg;show 4≤_;omega) (fun k=>rfl) (HL.below (HB0.trans (h.Ao.mono HB0.size))) Fp.dZ Fp.ed (aen Fp.dZ Fp.ed)
 obtain⟨⟨k1,A1⟩,hA1⟩:=ex (EG A9 n [] l);rw[hA1] at RV HR1;dsimp only at RV HR1;obtain⟨x1,x2,x3,x4⟩:=HC _ _ _ _ H4.out;have apC:=(BZ.1 (H4.at_ _ _ (Cc))).1;obtain⟨w4,hw4⟩:=ex (w3.alloc (Ed y p d r));rw[hw4] at H4 x1 x2 x3 x4 apC;go_upto_region 8 with fail
 rw[show w3.alloc (.cells #[.pointer (some ⟨y,0,none⟩),.pointer (some ⟨p,0,none⟩),.pointer (some ⟨d,0,none⟩),.pointer (some ⟨r,0,none⟩)] 40)=w4 from hw4];clear hw4 H3 x1 x2 x3 x4;generalize w3.heap.size=xb at*
 go_cut [9] from 37 to 48 (fun s9 wx=>s9=.bool true∧Duo wa.heap.size wa wx b y n 1 A1 r A1 [(xb,Ed y p d r),(d,CR y),(p,CQ y)])
 case first=>
  obtain⟨x1,x2,x3,x4⟩:=HC _ _ _ _ H4.out;refine TB ?_
  go_region_law
   (first
    |(go_simp;go_at_call 28;refine(RV _ _ (H4.step ((Ad _ _).drew))).mono ?_;rintro e wA ⟨rfl,hA⟩;have HA:=Hi hA;obtain⟨xA1,YH,YI,YJ⟩:=HC _ _ _ _ hA;clear hA;go_wp2_with fail)
    |(go_simp;go_at_call 29;refine(HR1 _ _ _ (H4.step ((Ad _ _).drew))).mono ?_;rintro e wB ⟨rfl,hA⟩;have HB:=Hi hA;obtain⟨xA1,YH,YI,YJ⟩:=HC _ _ _ _ hA;clear hA;go_wp2_with fail)
    |(go_simp;go_at_call 29;refine(HR1 _ _ _ HA).mono ?_;rintro e wE ⟨rfl,hA⟩;have HE:=Hi hA;obtain⟨xE1,xE2,xE3,YK⟩:=HC _ _ _ _ hA;clear hA;go_wp2_with fail)
    |(go_simp;go_at_call 28;refine(RV _ _ HB).mono ?_;rintro e wE ⟨rfl,hA⟩;have HE:=Hi hA;obtain⟨xE1,xE2,xE3,YK⟩:=HC _ _ _ _ hA;clear hA;go_wp2_with fail))
  all_goals
   dsimp only[Rk];go_wp2_with fail;go_meet
   case rel=>exact⟨by simp,HE⟩
 case rest=>
  obtain⟨rfl,h5⟩:=hcut;have H5:=Hi h5;clear h5 RV HR1 H4;have qY:A1=(EG A9 n [] l).2:=by rw[hA1]
  have Td:=Hi (show ∀ k,Fil.get A1 (A8.nm k)=none from by rw[qY];exact acN FH J3 (fun x h1 h2=>Ep.apart x h2 h1) Up.nil (fun k=>rfl) l);have Gx:=Hi (U5 H5.k);have Uz:=Hi qY;clear qY;have GR:Hid (∀ (W:World) (R:M),Duo wa.heap.size wa W b y n 1 A1 r R [(xb,Ed y p d r),(d,CR y),(p,CQ y)]→Calls prog 30 #[.pointer (some ⟨d,0,none⟩),.slice ua us.length uc] W fun e w'=>e=.returned (.int .i64 (F9 n A1 us).1)∧Duo wa.heap.size wa w' b y n 2 (F9 n A1 us).2 r R [(xb,Ed y p d r),(d,CR y),(p,CQ y)]):=Hi fun W R h=>
   apA h (by omega) (by simp) Td (HU.below (HB0.trans (h.Ao.mono HB0.size))) Fp.u20 Fp.uks Fp.ek (aeo Fp.u20 Fp.ek)
  have HR2:Hid (∀ (W:World) (N:Nat) (A:M),Duo wa.heap.size wa W b y n N A r A1 [(xb,Ed y p d r),(d,CR y),(p,CQ y)]→Calls prog 31 #[.pointer (some ⟨r,0,none⟩),.slice ua us.length uc] W fun e w'=>e=.returned (.int .i64 (F9 n A1 us).1)∧Duo wa.heap.size wa w' b y n N A r (F9 n A1 us).2 [(xb,Ed y p d r),(d,CR y),(p,CQ y)]):=Hi fun W N A h=>
   apB h Gx.1 (by omega) Gx.2.2 Td (HU.below (HB0.trans (h.Ao.mono HB0.size))) Fp.u20 Fp.uks Fp.ek (aeo Fp.u20 Fp.ek)
  obtain⟨⟨k2,A2⟩,hA2⟩:=ex (F9 n A1 us);rw[hA2] at GR HR2;dsimp only at GR HR2;go_upto_region 9 with fail
  go_cut [9] from 49 to 63 (fun s9 wx=>s9=.bool true∧Duo wa.heap.size wa wx b y n 2 A2 r A2 [(xb,Ed y p d r),(d,CR y),(p,CQ y)])
  case first=>
   obtain⟨x1,x2,x3,x4⟩:=HC _ _ _ _ H5.out;refine TB ?_
   go_region_law
    (first
     |(go_simp;go_at_call 30;refine(GR _ _ (H5.step ((Ad _ _).drew))).mono ?_;rintro e wA ⟨rfl,hA⟩;have HA:=Hi hA;obtain⟨xA1,YH,YI,YJ⟩:=HC _ _ _ _ hA;clear hA;go_wp2_with fail)
     |(go_simp;go_at_call 31;refine(HR2 _ _ _ (H5.step ((Ad _ _).drew))).mono ?_;rintro e wB ⟨rfl,hA⟩;have HB:=Hi hA;obtain⟨xA1,YH,YI,YJ⟩:=HC _ _ _ _ hA;clear hA;go_wp2_with fail)
     |(go_simp;go_at_call 31;refine(HR2 _ _ _ HA).mono ?_;rintro e wE ⟨rfl,hA⟩;have HE:=Hi hA;obtain⟨xE1,xE2,xE3,YK⟩:=HC _ _ _ _ hA;clear hA;go_wp2_with fail)
     |(go_simp;go_at_call 30;refine(GR _ _ HB).mono ?_;rintro e wE ⟨rfl,hA⟩;have HE:=Hi hA;obtain⟨xE1,xE2,xE3,YK⟩:=HC _ _ _ _ hA;clear hA;go_wp2_with fail))
   all_goals
    dsimp only[Rk];go_wp2_with fail;go_meet
    case rel=>exact⟨by simp,HE⟩
  case rest=>
   obtain⟨rfl,h6⟩:=hcut;have H6:=Hi h6;clear h6 GR HR2 H5;have GU:=Hi (U5 H6.k);have UA:=Hi (show A2=(F9 n A1 us).2 by rw[hA2]);have hfl:fs.length≤100000:=(by have:=Fp.f10;omega);have OL:Hid (∀ (W:World) (R:M),Duo wa.heap.size wa W b y n 2 A2 r R [(xb,Ed y p d r),(d,CR y),(p,CQ y)]→Calls prog 32 #[.pointer (some ⟨y,0,none⟩),.slice fa fs.length fc] W fun e w'=>e=.returned (.int .i64 (EL n A2 fs))∧Duo wa.heap.size wa w' b y n 3 (DN n A2 fs) r R [(xb,Ed y p d r),(d,CR y),(p,CQ y)]):=Hi fun W R h=>
    qW h (by omega) (HF.below (HB0.trans (h.Ao.mono HB0.size))) hfl Yp (fun e=>aek e Fp.f10 Fp.adj)
   have HR3:Hid (∀ (W:World) (N:Nat) (A:M),Duo wa.heap.size wa W b y n N A r A2 [(xb,Ed y p d r),(d,CR y),(p,CQ y)]→Calls prog 33 #[.pointer (some ⟨r,0,none⟩),.slice fa fs.length fc] W fun e w'=>e=.returned (.int .i64 (EL n A2 fs))∧Duo wa.heap.size wa w' b y n N A r (DN n A2 fs) [(xb,Ed y p d r),(d,CR y),(p,CQ y)]):=Hi fun W N A h=>
    apx h GU.1 (by omega) GU.2.2 (HF.below (HB0.trans (h.Ao.mono HB0.size))) hfl Yp (fun e=>aek e Fp.f10 Fp.adj)
   have QV:=Hi (show DN n A2 fs=VR n l us fs by unfold VR;rw[←Uz.out,←UA.out]);generalize EL n A2 fs=k3 at*;generalize DN n A2 fs=A3 at*;clear hA1 hA2 hfl;go_upto_region 10 with fail
   go_cut [9] from 64 to 78 (fun s9 wx=>s9=.bool true∧Duo wa.heap.size wa wx b y n 3 A3 r A3 [(xb,Ed y p d r),(d,CR y),(p,CQ y)])
   case first=>
    obtain⟨x1,x2,x3,x4⟩:=HC _ _ _ _ H6.out;refine TB ?_
    go_region_law
     (first
      |(go_simp;go_at_call 32;refine(OL _ _ (H6.step ((Ad _ _).drew))).mono ?_;rintro e wA ⟨rfl,hA⟩;have HA:=Hi hA;obtain⟨xA1,YH,YI,YJ⟩:=HC _ _ _ _ hA;clear hA;go_wp2_with fail)
      |(go_simp;go_at_call 33;refine(HR3 _ _ _ (H6.step ((Ad _ _).drew))).mono ?_;rintro e wB ⟨rfl,hA⟩;have HB:=Hi hA;obtain⟨xA1,YH,YI,YJ⟩:=HC _ _ _ _ hA;clear hA;go_wp2_with fail)
      |(go_simp;go_at_call 33;refine(HR3 _ _ _ HA).mono ?_;rintro e wE ⟨rfl,hA⟩;have HE:=Hi hA;obtain⟨xE1,xE2,xE3,YK⟩:=HC _ _ _ _ hA;clear hA;go_wp2_with fail)
      |(go_simp;go_at_call 32;refine(OL _ _ HB).mono ?_;rintro e wE ⟨rfl,hA⟩;have HE:=Hi hA;obtain⟨xE1,xE2,xE3,YK⟩:=HC _ _ _ _ hA;clear hA;go_wp2_with fail))
    all_goals
     dsimp only[Rk];go_wp2_with fail;go_meet
     case rel=>exact⟨by simp,HE⟩
   case rest=>
    obtain⟨rfl,h7⟩:=hcut;have H7:=Hi (Bl.lower h7.k HB0 HB0.size);clear h7 OL HR3 H6;rw[QV.out] at H7;go_wp2_with fail;go_ret2;exact⟨b,y,p,d,r,xb,rfl,H7⟩
end Hv
end Go.Proofs.YtmbbhdebddbhoaaGreat
