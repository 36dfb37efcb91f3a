/- SwMk SwMkW -/
import Derived.Test.YtmbbhdebddbhoaaGreatR41
set_option maxHeartbeats 8000000
set_option maxRecDepth 100000
set_option linter.all false
namespace Go.Proofs.YtmbbhdebddbhoaaGreat
open Tryz
namespace Hv
open Go.RowKit Go.Maps
open Wal Fil Prs Kp Cm Hex Sha Al Mem Dep IE
open Man hiding T
theorem ZN{α:Type}(f:α→Nat):∀ (S l:List α),S.Nodup→(∀ x∈S,x∈l)→(S.map f).sum≤(l.map f).sum
 |[],l,_,_=>AB _
 |x :: S,l,hn,hs=>by
  obtain⟨a,b,e⟩:=List.append_of_mem (hs x Dg);have hx:=(JF.1 hn).1
  have ih:=ZN f S (a++b) (JF.1 hn).2 (fun y hy=>by
   have h1:=hs y (DT _ hy);rw[e] at h1;rcases Fp.1 h1 with h|h
   ·exact List.mem_append_left _ h
   ·rcases Bt.1 h with h|h
    ·subst h;exact absurd hy hx
    ·exact List.mem_append_right _ h)
  rw[e];simp only[BL,Dq,CF,JH] at ih ⊢;omega
theorem amd(f:T→Nat)(l:List T):((AX l).map f).sum≤(l.map f).sum:=ZN f _ _ (ZI l) (fun x hx=>(Eg l x).1 hx)
theorem amc(l:List T):(AX l).length≤l.length:=by
 have h:=amd (fun _=>1) l;have e:∀ l:List T,(l.map fun _=>1).sum=l.length:=fun l=>by
  induction l with
  |nil=>rfl
  |cons x l ih=>rw[BL,Dq,ih,Br];omega
 rw[e,e] at h;exact h
theorem aru(k v:T):∀ l:M,Ct (put k v l)≤Ct l+(4+k.length+v.length):=by
 intro l;have h1:Ct (l.filter fun p=>decide (p.1 < k))+Ct (l.filter fun p=>decide (k < p.1))≤Ct l:=by
  induction l with
  |nil=>exact AB _
  |cons x l ih=>
   have e:∀ (y:T×T) (m:M),Ct (y :: m)=(4+y.1.length+y.2.length)+Ct m:=fun _ _=>rfl
   rw[List.filter_cons,List.filter_cons];by_cases h1:x.1 < k
   ·rw[Ab (by simpa using h1),Aa (by simpa using Qr h1),e,e];omega
   ·rw[Aa (by simpa using h1),e];split
    ·rw[e];omega
    ·omega
 have h2:Ct (put k v l)=Ct (l.filter fun p=>decide (p.1 < k))+((4+k.length+v.length)+Ct (l.filter fun p=>decide (k < p.1))):=by
  unfold put Ct;rw[CF,JH,BL,Dq]
 omega
theorem ahb(K:Kind)(S:List T)(hn:S.Nodup)(l:M):(S.map fun x=>Ct (Bv K l x)).sum≤Ct l:=by
 induction l using Uo with
 |h0=>
  have:∀ S:List T,(S.map fun x=>Ct (Bv K [] x)).sum=0:=fun S=>by
   induction S with
   |nil=>rfl
   |cons x S ih=>rw[BL,Dq,ih];rfl
  rw[this];exact AB _
 |h1 l p ih=>
  have e1:Ct (l++[p])=Ct l+(4+p.1.length+p.2.length):=by unfold Ct;rw[CF,JH];simp
  rw[e1];have key:∀ S:List T,S.Nodup→(S.map fun x=>Ct (Bv K (l++[p]) x)).sum≤(S.map fun x=>Ct (Bv K l x)).sum+(if K.nm p.1∈S then 4+p.1.length+p.2.length else 0):=by
   intro S
   induction S with
   |nil=>intro _;exact AB _
   |cons x S ih2=>
    intro hn;have h2:=ih2 (JF.1 hn).2;have hx:=(JF.1 hn).1;simp only[BL,Dq];rw[Nf];by_cases e:K.nm p.1=x
    ·rw[Ab e,Ab (by rw[e];exact Dg)];rw[Aa (by rw[e];exact hx)] at h2;have:=aru p.1 p.2 (Bv K l x);omega
    ·rw[Aa e];by_cases e2:K.nm p.1∈S
     ·rw[Ab e2] at h2;rw[Ab (DT _ e2)];omega
     ·rw[Aa e2] at h2;rw[Aa (by intro f;rcases Bt.1 f with f|f;exact e f;exact e2 f)];omega
  have:=key S hn;have h3:(if K.nm p.1∈S then 4+p.1.length+p.2.length else 0)≤4+p.1.length+p.2.length:=by split<;>omega
  omega
theorem aqG{l:M}{d:T}(h:BG l=some d):d.length=6+Ct l:=by
 unfold BG at h;cases hp:Fh l with
 |none=>rw[hp] at h;cases h
 |some s=>
  rw[hp] at h;simp only[Cj] at h;split at h
  ·simp only[BX] at h;subst h;unfold Fh at hp;split at hp
   ·cases ht:textsE (flat l) with
    |none=>rw[ht] at hp;cases hp
    |some a=>
     rw[ht] at hp;simp only[Ej,BX] at hp;have h6:=VP ht;rw[oN] at h6;subst hp;unfold Crc.EW;rw[Au,Crc.BK,Au,Crc.BK];omega
   ·cases hp
  ·cases h
theorem lU{K:Kind}(hK:K.BM)(l:M):Fx (ET K l)≤31*l.length+Ct l:=by
 have h1:=ahb K (AX (l.map fun p=>K.nm p.1)) (ZI _) l;have h2:=amc (l.map fun p=>K.nm p.1);rw[Cf] at h2;have h3:∀ S:List T,(∀ x∈S,∃ p∈l,K.nm p.1=x)→Fx (S.map (LP K l))≤31*S.length+(S.map fun x=>Ct (Bv K l x)).sum:=by
  intro S
  induction S with
  |nil=>intro _;exact AB _
  |cons x S ih=>
   intro hS;have h4:=ih (fun y hy=>hS y (DT _ hy));obtain⟨p,_,hp⟩:=hS x Dg;have e:Fx ((x :: S).map (LP K l))=(8+x.length+((BG (Bv K l x)).getD []).length)+Fx (S.map (LP K l)):=by
    unfold Fx;rw[BL,BL,Dq];rfl
   have FN:x.length=17:=(by rw[←hp];exact hK.len _);have hd:((BG (Bv K l x)).getD []).length≤6+Ct (Bv K l x):=by
    cases hc:BG (Bv K l x) with
    |none=>exact AB _
    |some d=>rw[Option.getD_some,aqG hc];exact Ac _
   rw[e,BL,Dq,Br];omega
 have h5:=h3 (AX (l.map fun p=>K.nm p.1)) (fun x hx=>by
  rw[Eg] at hx;obtain⟨p,hp,e⟩:=Bz.1 hx;exact⟨p,hp,e⟩)
 show Fx ((AX (l.map fun p=>K.nm p.1)).map (LP K l))≤_
 omega
theorem ag7(l:M):Ct l=4*l.length+Jf l:=by
 unfold Ct Jf
 induction l with
 |nil=>rfl
 |cons p l ih=>
  rw[BL,Dq,BL,Dq,Br,ih];omega
theorem azy{l:List T}{s:T}(h:textsE l=some s):∀ t∈l,t.length≤65535:=by
 induction l generalizing s with
 |nil=>intro t ht;simp at ht
 |cons x l ih=>
  simp only[textsE] at h;cases h1:DJ x with
  |none=>rw[h1] at h;cases h
  |some a=>
   rw[h1,Cj] at h;cases h2:textsE l with
   |none=>rw[h2] at h;cases h
   |some b=>
    intro t ht;rcases Bt.1 ht with rfl|ht
    ·unfold DJ at h1;split at h1
     ·assumption
     ·cases h1
    ·exact ih h2 t ht
theorem anF{u:T×List T}(h:(Cq (AX u.2)).2=0):(Po u).2.length≤2+16*MG u.2:=by
 obtain⟨s,hs⟩:=MN.1 (ayd.1 h);have e:(Po u).2=s:=by
  show(Cq (AX u.2)).1=s
  unfold Cq;rw[hs]
 rw[e];unfold FZ at hs;split at hs
 ·cases ht:textsE (AX u.2) with
  |none=>rw[ht] at hs;cases hs
  |some a=>
   rw[ht] at hs;simp only[Ej,BX] at hs;have h6:=VP ht;have h7:=azy ht;have h8:s.length=2+a.length:=(by rw[←hs,Au,Crc.BK]);have h9:((AX u.2).map fun s=>2+s.length).sum≤16*((AX u.2).map fun s=>2+min s.length 4096).sum:=by
    clear hs ht h6 e h
    revert h7
    generalize AX u.2=l;intro h7
    induction l with
    |nil=>exact AB _
    |cons x l ih=>
     have h1:=ih (fun t ht=>h7 t (DT _ ht));have h2:=h7 x Dg;rw[BL,Dq,BL,Dq];omega
   have Ij:=amd (fun s=>2+min s.length 4096) u.2;have h11:MG u.2=(u.2.map fun s=>2+min s.length 4096).sum:=rfl;have h12:=Ap h9 (Nat.mul_le_mul_left 16 Ij);unfold rowLen at h6;rw[h8,h6,h11];omega
 ·cases hs
theorem aA8{l:Us}(h:Md l):Ct (Bi l)≤6*l.length+16*Ht l:=by
 induction l with
 |nil=>exact AB _
 |cons u l ih=>
  have h1:=ih (fun x hx=>h x (DT _ hx));have h2:=anF (h u Dg);have e1:Ct (Bi (u :: l))=(4+u.1.length+(Po u).2.length)+Ct (Bi l):=rfl;have e2:Ht (u :: l)=(u.1.length+MG u.2)+Ht l:=rfl;rw[e1,e2,Br];omega
theorem asc{fz:Bool}{w:World}{b y n N:Nat}{bl:Nat→Prop}{A:M}{a:Option Addr}{cap:Nat}{l:List Aj}(h:EJ fz w b y bl n N A)(hN:N < 1000000000)(hL:DW w a l)(hlen:l.length≤100000)(auO:∀ c∈l,c.name.length≤maxLen∧c.data.length≤maxLen)(Ue:l.all Aj.may=true→Fx l≤900000):
  Calls prog 32 #[.pointer (some ⟨y,0,none⟩),.slice a l.length cap] w fun e w'=>∃ c:Int,e=.returned (.int .i64 c)∧∃ Bu,Tj fz w' b y Bu n (N+1) A (Gu n A l,F9 n A l) c∧A7 (Gt w bl) w w'∧∀ k,Bu k→bl k∨w.heap.size≤k:=by
 have E5:=h.up;obtain⟨D,fp,m,x,gv,F,h1,h2,h3,h4,h5,h6,h7,h8,h9⟩:=h;have Im:=ZJ E5.2.2.2.2;have GD:=VQ E5.1 l;have ED:F.room=C8 n:=by unfold St.room C8;rw[h4.size,h6]
 have hgw:=ah5 l;have I9:=Rn A;have GU:D.loose.length=0:=by rw[h4.disk.loose];rfl
 have key:Calls prog 32 #[.pointer (some ⟨y,0,none⟩),.slice a l.length cap] w fun e w'=>Rs w y b m x gv fp (J7 D F l) e w':=by
  by_cases AY:l.all Aj.may=true
  ·have hw:=Ue AY;have Cb:∀ c∈l,c.name.length≤1000000∧c.data.length≤maxLen:=fun c hc=>by
    have h1:=(Nz.1 AY) c hc;unfold Aj.may Fw at h1;simp only[Bool.and_eq_true,decide_eq_true_eq] at h1;unfold maxLen;omega
   have Fg:=yN D F l (by omega) (by rw[h8];omega);exact agl h1 h2 h3 hL hlen Cb h4.good (by rw[h8];omega) (by rw[h8];omega) (by rw[h4.size];have:=h4.disk.fine.n2;unfold sz;omega) (by omega) (by omega) (by have:=ah7 h4;omega) h4.fault AY
  ·exact agk h1 h2 h3 hL hlen auO h4.fault (by simpa using AY)
 refine key.mono ?_;rintro e w'⟨m',⟨he,fp',EN,p1,p2,p3,p4,p5,p6⟩,Xf⟩;refine⟨_,he,fun k=>bl k∨w.heap.size≤k,?_,p4.mono (fun k hk=>dI h1 h2 h9 k hk),fun k hk=>hk⟩;have De:∀ k,fp' k∨RX y m' x EN k→bl k∨w.heap.size≤k:=by
  rintro k (hk|hk|hk|hk)
  ·exact(p5 k hk).imp (fun e=>h9 k (.inl e)) id
  ·exact .inl (h9 k (.inr (.inl hk)))
  ·subst hk;exact Xf.imp (fun e=>h9 _ (.inr (.inr (.inl e)))) id
  ·exact(p6 k hk).imp (fun e=>h9 k (.inr (.inr (.inr e)))) id
 by_cases AY:l.all Aj.may=true
 ·have hw:=Ue AY;have Fg:=yN D F l (by omega) (by rw[h8];omega);by_cases hr:used (made F.m l)≤F.room
  ·have hc:=afv h4 (by omega) AY hr;have Sl:Gu n A l=0:=(by unfold Gu;rw[Aa (by simp[AY]),Aa (by rw[←h8,←ED];omega)]);have KU:F9 n A l=made A l:=(by unfold F9;rw[Ab ⟨AY,by rw[←h8,←ED];exact hr⟩]);rw[Sl,KU];rcases hc.out with⟨o1,o2,o3,o4,o5⟩|⟨o1,o2,o3,o4,o5,o6⟩
   ·exact .inl ⟨o1,_,fp',m',x,EN,_,p1,p2,p3,o2,fun e=>o5 (h5 e),hc.n.trans h6,by omega,by rw[←h8];exact o3,De⟩
   ·refine .inr ⟨?_,o1,rfl,_,fp',m',x,EN,_,p1,p2,p3,o3,by omega,hc.n.trans h6,⟨E5.2.1,E5.2.2.1,E5.2.2.2.2⟩,o4.trans h8,fun keep=>?_,De⟩
    ·cases fz with
     |false=>exact absurd (h5 rfl) o2
     |true=>rfl
    ·obtain⟨F',D',q1,q2,q3,q4⟩:=o6 keep;exact⟨F',D',q1,q2,by omega,by rw[←h8];exact q4⟩
  ·have e1:J7 D F l=(D,F,4):=by
    unfold J7;rw[Aa (by simp[h4.fault]),Aa (by simp[AY]),Ab (by omega)]
   have Sl:Gu n A l=4:=(by unfold Gu;rw[Aa (by simp[AY]),Ab (by rw[←h8,←ED];omega)]);have KU:F9 n A l=A:=(by unfold F9;rw[Aa (fun e=>hr (by rw[h8,ED];exact e.2))]);rw[e1] at p1 p2 ⊢;rw[Sl,KU];exact .inl ⟨rfl,D,fp',m',x,EN,F,p1,p2,p3,h4,h5,h6,by omega,h8,De⟩
 ·have FV:l.all Aj.may=false:=by simpa using AY
  have e1:J7 D F l=(D,F,2):=by
   unfold J7;rw[Aa (by simp[h4.fault]),Ab FV]
  have Sl:Gu n A l=2:=by unfold Gu;rw[Ab FV]
  have KU:F9 n A l=A:=by unfold F9;rw[Aa (fun e=>AY e.1)]
  rw[e1] at p1 p2 ⊢;rw[Sl,KU];exact .inl ⟨rfl,D,fp',m',x,EN,F,p1,p2,p3,h4,h5,h6,by omega,h8,De⟩
section
variable {B:Nat}{w0 w w':World}{b y n N r:Nat}{A A' R R':M}{L:List (Nat×Obj)}
structure Duo(B:Nat)(w0 W:World)(b y n N:Nat)(A:M)(r:Nat)(R:M)(L:List (Nat×Obj)):Prop where
 x:UR B w0 W b y n N A (fun k=>k=r∨∃ o,(k,o)∈L)
 at_:∀ k o,(k,o)∈L→W.heap[k]?=some o
 rf:∃ v,GL W r v R (C8 n)
 ne:∀ o,(r,o)∉L
 ge:B≤r
theorem Duo.step(h:Duo B w0 w b y n N A r R L)(hb:Bw w w'):Duo B w0 w' b y n N A r R L:=by
 obtain⟨v,hv⟩:=h.rf;exact⟨h.x.step hb,fun k o ho=>(hb.block k (CR.1 (h.at_ k o ho)).1).trans (h.at_ k o ho),⟨v,hv.below hb⟩,h.ne,h.ge⟩
theorem Duo.pick(h:Duo B w0 w b y n N A r R L):∃ bl,Rt w b y bl n N A∧(∀ k,bl k→k < w.heap.size)∧∀ {N':Nat} {A':M} {w':World},Goes w b y bl n N' A' w'→Duo B w0 w' b y n N' A' r R L:=by
 obtain⟨⟨h1,h2,hx,bl,h3,h4⟩,ha,⟨v,hv⟩,hn,hg⟩:=h;refine⟨_,h3.shrink,fun k hk=>hk.2,fun {N' A' w'} ⟨Bu,g1,g2,g3⟩=>?_⟩;obtain⟨k1,k2⟩:=UR.turn h1 h2 hx (fun k hk=>h4 k hk.1) g1 g2 g3;exact⟨k1,fun k o ho=>(k2 k (.inr ⟨o,ho⟩)).trans (ha k o ho),⟨v,hv.noS g2⟩,hn,hg⟩
theorem Duo.ref(h:Duo B w0 w b y n N A r R L){v':Value}(hr:GL w' r v' R' (C8 n))(hu:A7 (fun k=>k=r) w w'):Duo B w0 w' b y n N A r R' L:=by
 obtain⟨⟨h1,h2,hx,bl,h3,h4⟩,ha,⟨v,hv⟩,hn,hg⟩:=h;refine⟨⟨Ca h1 hu (fun k hk=>by subst hk;exact hg) h2,Ap h2 hu.size,fun k hk=>DK (hx k hk) hu.size,bl,h3.upd hu (fun k hk e=>?_) (fun k hk e=>(h4 k hk).2 (.inl e)),h4⟩,fun k o ho=>?_,⟨v',hr⟩,hn,hg⟩
 ·subst e;exact AA.ne hk ⟨_,_,hv.1⟩ (by decide) rfl
 ·exact(hu.block k (CR.1 (ha k o ho)).1 (fun e=>by subst e;exact hn o ho)).trans (ha k o ho)
theorem Duo.Ay(h:Duo B w0 w b y n N A r R L):Below B w0 w:=h.x.1
theorem Duo.cell(h:Duo B w0 w b y n N A r R L){k:Nat}{cs:Array Value}{t:TypeId}(hm:(k,.cells cs t)∈L)(i:Nat):w.cell? ⟨k,i,none⟩=cs[i]? :=BA w k i cs t _ (h.at_ _ _ hm)
theorem Duo.new(h:Duo B w0 w b y n N A r R L)(o:Obj):Duo B w0 (w.alloc o) b y n N A r R ((w.heap.size,o) :: L):=by
 have hs:=h.step (Aw w o);obtain⟨⟨h1,h2,hx,bl,h3,h4⟩,ha,⟨v,hv⟩,hn,hg⟩:=h;have hb:=Aw w o;have hsz:(w.alloc o).heap.size=w.heap.size+1:=Aq _ _;refine⟨⟨h1.trans (hb.mono h2),Ap h2 hb.size,fun k hk=>?_,fun k=>bl k∧k < w.heap.size,h3.shrink.below hb,fun k hk=>⟨(h4 k hk.1).1,fun hk2=>?_⟩⟩,fun k o' ho=>?_,hs.rf,fun o' ho=>?_,hg⟩
 ·rcases hk with e|⟨o',ho⟩
  ·have:=hx k (.inl e);omega
  ·rcases Bt.1 ho with e|e
   ·cases e;omega
   ·have:=hx k (.inr ⟨o',e⟩);omega
 ·rcases hk2 with e|⟨o',ho⟩
  ·exact(h4 k hk.1).2 (.inl e)
  ·rcases Bt.1 ho with e|e
   ·cases e;have:=hk.2;omega
   ·exact(h4 k hk.1).2 (.inr ⟨o',e⟩)
 ·rcases Bt.1 ho with e|e
  ·cases e;exact AJ w o
  ·exact hs.at_ k o' e
 ·rcases Bt.1 ho with e|e
  ·have:=hx r (.inl rfl);cases e;omega
  ·exact hn o' e
theorem nR(h:D9 B w0 w b y n N A L)(hb:Bw w w'){p:Nat}{o:Obj}(hp:w.heap.size≤p)(ho:w'.heap[p]?=some o):D9 B w0 w' b y n N A ((p,o) :: L):=by
 have hs:=h.step hb;obtain⟨⟨h1,h2,hx,bl,h3,h4⟩,ha⟩:=h;refine⟨⟨h1.trans (hb.mono h2),Ap h2 hb.size,fun k ⟨o',R8⟩=>?_,fun k=>bl k∧k < w.heap.size,h3.shrink.below hb,fun k hk=>⟨(h4 k hk.1).1,fun⟨o',R8⟩=>?_⟩⟩,fun k o' R8=>?_⟩
 ·rcases Bt.1 R8 with e|e
  ·cases e;exact(CR.1 ho).1
  ·have:=hx k ⟨o',e⟩;have:=hb.size;omega
 ·rcases Bt.1 R8 with e|e
  ·cases e;have:=hk.2;omega
  ·exact(h4 k hk.1).2 ⟨o',e⟩
 ·rcases Bt.1 R8 with e|e
  ·cases e;exact ho
  ·exact hs.at_ k o' e
theorem arj(h:D9 B w0 w b y n N A L)(hb:Bw w w'){v:Value}(hr:GL w' r v R (C8 n))(hp:w.heap.size≤r):Duo B w0 w' b y n N A r R L:=by
 have hs:=h.step hb;obtain⟨⟨h1,h2,hx,bl,h3,h4⟩,ha⟩:=h;refine⟨⟨h1.trans (hb.mono h2),Ap h2 hb.size,fun k hk=>?_,fun k=>bl k∧k < w.heap.size,h3.shrink.below hb,fun k hk=>⟨(h4 k hk.1).1,fun hk2=>?_⟩⟩,hs.at_,⟨v,hr⟩,fun o ho=>?_,Ap h2 hp⟩
 ·rcases hk with e|⟨o',R8⟩
  ·subst e;exact Ai hr.1
  ·have:=hx k ⟨o',R8⟩;have:=hb.size;omega
 ·rcases hk2 with e|⟨o',R8⟩
  ·have:=hk.2;omega
  ·exact(h4 k hk.1).2 ⟨o',R8⟩
 ·have:=hx r ⟨o,ho⟩;omega
theorem Duo.k(h:Duo B w0 w b y n N A r R L):D9 B w0 w b y n N A L:=by
 obtain⟨⟨h1,h2,hx,bl,h3,h4⟩,ha,_⟩:=h;exact⟨⟨h1,h2,fun k ⟨o,ho⟩=>hx k (.inr ⟨o,ho⟩),bl,h3,fun k hk=>⟨(h4 k hk).1,fun⟨o,ho⟩=>(h4 k hk).2 (.inr ⟨o,ho⟩)⟩⟩,ha⟩
def ES(y:Nat):Obj:=.cells #[.pointer (some ⟨y,0,none⟩)] 134
def Fq(y:Nat):Obj:=.cells #[.pointer (some ⟨y,0,none⟩)] 136
theorem awc(n:Nat)(h8:8≤n)(hn:n≤16384)(w:World):Calls prog 26 #[.int .i64 (n:Int)] w fun e w'=>∃ b y p,e=.returned (.tuple #[.pointer (some ⟨y,0,none⟩),.pointer (some ⟨p,0,none⟩)])∧D9 w.heap.size w w' b y n 0 [] [(p,ES y)]:=by
 go_enter func26,ntmps26;go_wp2_with fail;refine(awL n (by omega) (by omega)).mono ?_;rintro e w1⟨b,fp,rfl,O0,ahP,DI⟩;have Pt:=Hi O0;have HB1:=Hi ahP;have Y9:=Hi DI;clear O0 ahP DI;go_wp2_with fail;refine(awE HB1 HB1.size (n:=n) h8 hn Pt Y9).mono ?_;rintro e w2⟨y,rfl,h2⟩;have H2:=Hi h2;clear h2 Pt Y9 HB1;go_wp2_with fail;refine(al7 y _).mono ?_;rintro e w3⟨p,rfl,hm,hp,Ak⟩;have H3:=Hi (nR (D9.of H2) Ak hp hm);clear Ak H2 hm hp;go_wp2_with fail;go_ret2;exact⟨b,y,p,rfl,H3⟩
end
section
variable {B:Nat}{w0 w w':World}{b y n N r p:Nat}{A A' R R':M}{L:List (Nat×Obj)}{a:Option Addr}{cap:Nat}
theorem Duo.more{N':Nat}(h:Duo B w0 w b y n N A r R L)(hN:N≤N'):Duo B w0 w b y n N' A r R L:=by
 obtain⟨bl,h1,_,h3⟩:=h.pick;exact h3 ⟨bl,h1.more hN,A7.refl _ _,fun k hk=>.inl hk⟩
theorem zb{l:List Aj}(h:Duo B w0 w b y n N A r R L)(hN:N < 1000000000)(hL:DW w a l)(hlen:l.length≤100000)(Cb:∀ c∈l,c.name.length≤maxLen∧c.data.length≤maxLen)(Ue:l.all Aj.may=true→Fx l≤900000):
  Calls prog 32 #[.pointer (some ⟨y,0,none⟩),.slice a l.length cap] w fun e w'=>e=.returned (.int .i64 (Gu n A l))∧Duo B w0 w' b y n (N+1) (F9 n A l) r R L:=by
 obtain⟨bl,h1,_,h3⟩:=h.pick;refine(asc h1 hN hL hlen Cb Ue).mono ?_;rintro e w'⟨c,rfl,Bu,g1,g2,g3⟩;obtain⟨rfl,g4⟩:=g1.calm;exact⟨rfl,h3 ⟨Bu,g4,g2,g3⟩⟩
theorem arl{l:List Aj}(h:Duo B w0 w b y n N A r R L)(hu:Up R)(hn:n≤16384)(hA:used R≤C8 n)(hL:DW w a l)(hlen:l.length≤100000)(Cb:∀ c∈l,c.name.length≤maxLen∧c.data.length≤maxLen)(Ue:l.all Aj.may=true→Fx l≤900000):
  Calls prog 33 #[.pointer (some ⟨r,0,none⟩),.slice a l.length cap] w fun e w'=>e=.returned (.int .i64 (Gu n R l))∧Duo B w0 w' b y n N A r (F9 n R l) L:=by
 obtain⟨v,hv⟩:=h.rf;refine(axK hv hu hL hn hA hlen Cb (fun e=>Ap (Ue e) (by omega))).mono ?_;rintro e w'⟨rfl,v',g1,g2⟩;exact⟨rfl,h.ref g1 g2⟩
theorem alE{K:Kind}(hK:K.BM){l:M}(h:Fits K l):∀ c∈ET K l,c.name.length≤maxLen∧c.data.length≤maxLen:=fun c hc=>by
 have h1:=Nz.1 (alC hK h) c hc;unfold Aj.may Fw at h1;simp only[Bool.and_eq_true,decide_eq_true_eq] at h1;unfold maxLen;omega
theorem alB(K:Kind)(l:M):(ET K l).length≤l.length:=by
 unfold ET;rw[Cf];exact Ap (amc _) (by rw[Cf];exact Ac _)
theorem ark{l:M}(h:Duo B w0 w b y n N A r R L)(hN:N < 1000000000)(hp:(p,ES y)∈L)(CO:∀ k,Fil.get A (Ae.nm k)=none)(hk:AO w a l)(hl:l.length≤20)(hs:Jf l≤262144)(Fg:∀ j name,Small (Bv Ae (l.take j) name)):
  Calls prog 28 #[.pointer (some ⟨p,0,none⟩),.slice a l.length cap] w fun e w'=>e=.returned (.int .i64 (Gl Ae n A l).1)∧Duo B w0 w' b y n (N+1) (Gl Ae n A l).2 r R L:=by
 obtain⟨bl,h1,_,_⟩:=h.pick;have Qk:Fx (ET Ae l)≤900000:=by
  have h2:=lU MI l;have h3:=ag7 l;omega
 refine(aww (Q:=fun c w'=>c=(Gl Ae n A l).1∧Duo B w0 w' b y n (N+1) (Gl Ae n A l).2 r R L) (h.at_ _ _ hp) (iF h1) CO hk (by omega) (fun x hx=>by have:=alz l x hx;omega) Fg (fun W hb=>oW (h1.below hb)) (fun hf w' hb=>?_) (fun hf W q c hb hc=>?_)).mono ?_
 ·unfold Gl;rw[Aa hf];exact⟨rfl,(h.step hb).more (by omega)⟩
 ·have QX:=alB Ae l;refine(zb (h.step hb) hN hc (by omega) (alE MI hf) (fun _=>Qk)).mono ?_;rintro e w'⟨rfl,g⟩;refine⟨_,rfl,?_⟩;unfold Gl;rw[Ab hf];exact⟨rfl,g⟩
 ·rintro e w' ⟨c,rfl,rfl,g⟩;exact⟨rfl,g⟩
theorem arn{l:M}(h:Duo B w0 w b y n N A r R L)(hu:Up R)(hn:n≤16384)(hA:used R≤C8 n)(CO:∀ k,Fil.get R (Ae.nm k)=none)(hk:AO w a l)(hl:l.length≤20)(hs:Jf l≤262144)(Fg:∀ j name,Small (Bv Ae (l.take j) name)):
  Calls prog 29 #[.pointer (some ⟨r,0,none⟩),.slice a l.length cap] w fun e w'=>e=.returned (.int .i64 (Gl Ae n R l).1)∧Duo B w0 w' b y n N A r (Gl Ae n R l).2 L:=by
 obtain⟨v,hv⟩:=h.rf;refine(ayh hv hu CO hn hA hk hl (fun x hx=>by have:=alz l x hx;omega) Fg).mono ?_;rintro e w'⟨rfl,v',g1,g2⟩;exact⟨rfl,h.ref g1 g2⟩
theorem arp{l:Us}(h:Duo B w0 w b y n N A r R L)(hN:N < 1000000000)(hp:(p,Fq y)∈L)(CO:∀ k,Fil.get A (A9.nm k)=none)(hk:Ls w a l)(hl:l.length≤20)(DY:∀ u∈l,u.2.length≤30)(hs:Ht l≤16384)(Fg:∀ j name,Small (Bv A9 (Bi (l.take j)) name)):
  Calls prog 30 #[.pointer (some ⟨p,0,none⟩),.slice a l.length cap] w fun e w'=>e=.returned (.int .i64 (GX n A l).1)∧Duo B w0 w' b y n (N+1) (GX n A l).2 r R L:=by
 obtain⟨bl,h1,_,_⟩:=h.pick;have Qk:Md l→Fx (ET A9 (Bi l))≤900000:=fun hr=>by
  have h2:=lU I5 (Bi l);have h3:=aA8 hr;rw[Ol] at h2;omega
 refine(ari (Q:=fun c w'=>c=(GX n A l).1∧Duo B w0 w' b y n (N+1) (GX n A l).2 r R L) (h.at_ _ _ hp) (iF h1) CO hk (by omega) (fun x hx=>⟨by have:=anE l x hx;omega,by have:=DY x hx;omega⟩) Fg (fun W hb=>oW (h1.below hb)) (fun hf w' hb=>?_) (fun hf W q c hb hc=>?_)).mono ?_
 ·have e:GX n A l=(5,A):=by
   unfold GX Gl;by_cases hr:Md l
   ·rw[Ab hr,Aa (fun g=>hf ⟨hr,g⟩)]
   ·rw[Aa hr]
  rw[e];exact⟨rfl,(h.step hb).more (by omega)⟩
 ·have QX:=alB A9 (Bi l);rw[Ol] at QX;refine(zb (h.step hb) hN hc (by omega) (alE I5 hf.2) (fun _=>Qk hf.1)).mono ?_;rintro e w'⟨rfl,g⟩;refine⟨_,rfl,?_⟩;unfold GX Gl;rw[Ab hf.1,Ab hf.2];exact⟨rfl,g⟩
 ·rintro e w' ⟨c,rfl,rfl,g⟩;exact⟨rfl,g⟩
theorem aro{l:Us}(h:Duo B w0 w b y n N A r R L)(hu:Up R)(hn:n≤16384)(hA:used R≤C8 n)(CO:∀ k,Fil.get R (A9.nm k)=none)(hk:Ls w a l)(hl:l.length≤20)(DY:∀ u∈l,u.2.length≤30)(hs:Ht l≤16384)(Fg:∀ j name,Small (Bv A9 (Bi (l.take j)) name)):
  Calls prog 31 #[.pointer (some ⟨r,0,none⟩),.slice a l.length cap] w fun e w'=>e=.returned (.int .i64 (GX n R l).1)∧Duo B w0 w' b y n N A r (GX n R l).2 L:=by
 obtain⟨v,hv⟩:=h.rf;refine(aym hv hu CO hn hA hk hl (fun x hx=>⟨by have:=anE l x hx;omega,by have:=DY x hx;omega⟩) Fg).mono ?_;rintro e w'⟨rfl,v',g1,g2⟩;exact⟨rfl,h.ref g1 g2⟩
theorem akX{l:List Aj}(h:l.all Aj.may=true)(Ij:l.length≤10)(hd:KH l≤4096):Fx l≤900000:=by
 have key:∀ l:List Aj,l.all Aj.may=true→Fx l≤40*l.length+KH l:=by
  intro l
  induction l with
  |nil=>intro _;exact AB _
  |cons c l ih=>
   intro h;rw[List.all_cons,Bool.and_eq_true] at h;have h1:=ih h.2;have h2:=h.1;unfold Aj.may Fw at h2;simp only[Bool.and_eq_true,decide_eq_true_eq] at h2;have e1:Fx (c :: l)=(8+c.name.length+c.data.length)+Fx l:=rfl;have e2:KH (c :: l)=c.data.length+KH l:=rfl;rw[e1,e2,Br];omega
 have:=key l h;omega
theorem ah9{K:Kind}{l:M}{name:T}{C:Nat}(hl:l.length≤1000)(hc:Ct l≤C)(hC:C≤900000000):Small (Bv K l name):=by
 have hn:(Bv K l name).Nodup:=List.nodup_iff_pairwise_ne.2 ((show List.Pairwise (fun a b:T×T=>a.1 < b.1) (Bv K l name) from Sb l name).imp fun {a b} (h:a.1 < b.1) (e:a=b)=>L6 h (congrArg Prod.fst e));have hs:∀ x∈Bv K l name,x∈l:=fun x hx=>(pJ l name x hx).2
 have h1:=ZN (fun _=>1) _ _ hn hs;have h2:=ZN (fun q:T×T=>4+q.1.length+q.2.length) _ _ hn hs;have e:∀ l:M,(l.map fun _=>1).sum=l.length:=fun l=>by
  induction l with
  |nil=>rfl
  |cons x l ih=>rw[BL,Dq,ih,Br];omega
 rw[e,e] at h1;have h3:Ct (Bv K l name)≤Ct l:=h2;refine⟨by omega,?_⟩;rw[oN];omega
theorem zg(l:M)(j:Nat):Ct (l.take j)≤Ct l:=by
 have h:Ct l=Ct (l.take j)+Ct (l.drop j):=by
  conv=>lhs;rw[←M4 j l]
  unfold Ct;rw[CF,JH]
 omega
theorem anM(l:Us):Ct (Bi l)≤6*l.length+16*Ht l:=by
 induction l with
 |nil=>exact AB _
 |cons u l ih=>
  have h2:(Po u).2.length≤2+16*MG u.2:=by
   by_cases h:(Cq (AX u.2)).2=0
   ·exact anF h
   ·have:(Po u).2=[]:=by
     show(Cq (AX u.2)).1=[]
     unfold Cq at h ⊢;cases hr:FZ (AX u.2) with
     |none=>rfl
     |some s=>rw[hr] at h;exact absurd rfl h
    rw[this];exact AB _
  have e1:Ct (Bi (u :: l))=(4+u.1.length+(Po u).2.length)+Ct (Bi l):=rfl;have e2:Ht (u :: l)=(u.1.length+MG u.2)+Ht l:=rfl;rw[e1,e2,Br];omega
theorem amP{l:M}(hl:l.length≤20)(hs:Jf l≤262144)(j:Nat)(name:T):Small (Bv Ae (l.take j) name):=by
 have h1:=zg l j;have h2:=ag7 l;exact ah9 (by rw[AL];omega) (Ap h1 (Ac _)) (by omega)
theorem amQ{l:Us}(hl:l.length≤20)(hs:Ht l≤16384)(j:Nat)(name:T):Small (Bv A9 (Bi (l.take j)) name):=by
 rw[uJ];have h1:=zg (Bi l) j;have h2:=anM l;exact ah9 (by rw[AL,Ol];omega) (Ap h1 (Ac _)) (by omega)
def dD(n:Nat)(l:M)(us:Us)(fs:List Aj):M:=F9 n (GX n (Gl Ae n [] l).2 us).2 fs
theorem D9.lower{B2:Nat}{w2:World}(h:D9 B w0 w b y n N A L)(hb:Below B2 w2 w0)(hB:B2≤B):D9 B2 w2 w b y n N A L:=by
 obtain⟨⟨h1,h2,hx,bl,h3,h4⟩,ha⟩:=h;exact⟨⟨hb.trans (h1.mono hB),Ap hB h2,hx,bl,h3,fun k hk=>⟨Ap hB (h4 k hk).1,(h4 k hk).2⟩⟩,ha⟩
end
def Ic(y p d r:Nat):Obj:=.cells #[.pointer (some ⟨y,0,none⟩),.pointer (some ⟨p,0,none⟩),.pointer (some ⟨d,0,none⟩),.pointer (some ⟨r,0,none⟩)] 40
theorem akS{n:Nat}{a ua fa:Option Addr}{cap uc fc:Nat}{l:M}{us:Us}{fs:List Aj}{w:World}(P5:nN n l us fs)(hL:AO w a l)(hU:Ls w ua us)(hF:DW w fa fs)(U5:∀ c∈fs,c.name.length≤maxLen∧c.data.length≤maxLen):
  Calls prog 7 #[.agg #[.int .i64 (n:Int),.slice a l.length cap,.slice ua us.length uc,.slice fa fs.length fc]] w fun e w'=>∃ b y p d r xb,e=.returned (.tuple #[.pointer (some ⟨xb,0,none⟩),.bool true])∧D9 w.heap.size w w' b y n 3 (dD n l us fs) [(xb,Ic y p d r),(d,Fq y),(p,ES y)]:=by
 have Ha:=Hi P5;have HL:=Hi hL;have HU:=Hi hU;have HF:=Hi hF;have fK:=Hi U5;have h8:8≤n:=by have:=P5.n8;omega
 have ahd:n≤200:=by have:=P5.n200;omega
 clear P5 hL hU hF U5;go_enter func7,ntmps7;go_wp2_with fail;have Bc:=Hi (Aw w (.cells #[.int .i64 (n:Int),.slice a l.length cap,.slice ua us.length uc,.slice fa fs.length fc] 26));have hx:=AJ w (.cells #[.int .i64 (n:Int),.slice a l.length cap,.slice ua us.length uc,.slice fa fs.length fc] 26);generalize jZ:w.alloc (.cells #[.int .i64 (n:Int),.slice a l.length cap,.slice ua us.length uc,.slice fa fs.length fc] 26)=wa at*;have HX:Hid (∀ wr,Bw wa wr→wr.cell? ⟨w.heap.size,0,none⟩=some (.int .i64 (n:Int))∧wr.cell? ⟨w.heap.size,1,none⟩=some (.slice a l.length cap)∧wr.cell? ⟨w.heap.size,2,none⟩=some (.slice ua us.length uc)∧wr.cell? ⟨w.heap.size,3,none⟩=some (.slice fa fs.length fc)):=Hi fun wr hb=>by
  have hk:w.heap.size < wa.heap.size:=(CR.1 hx).1;refine⟨(hb.cell (p:=⟨w.heap.size,0,none⟩) hk).trans ?_,(hb.cell (p:=⟨w.heap.size,1,none⟩) hk).trans ?_,(hb.cell (p:=⟨w.heap.size,2,none⟩) hk).trans ?_,(hb.cell (p:=⟨w.heap.size,3,none⟩) hk).trans ?_⟩<;>(unfold World.cell?;rw[hx];rfl)
 clear jZ hx;refine(awc n h8 (by omega) wa).mono ?_;rintro e w1⟨b,y,p,rfl,h1⟩;have H1:=Hi h1;clear h1;go_wp2_with fail;refine(afV y w1).mono ?_;rintro e w2⟨d,rfl,hd,hdp,A8⟩;have H2:=Hi (nR H1 A8 hdp (o:=Fq y) hd);clear hd hdp A8 H1;obtain⟨c0,c1,c2,c3⟩:=HX _ H2.Ay;go_wp2_with fail;refine(ay7 n h8 (by omega) w2).mono ?_;rintro e w3⟨r,rfl,hr,hrp,Ak⟩;have H3:=Hi (arj H2 Ak hr hrp);clear hr hrp Ak H2 c0 c1 c2 c3;have H4:=Hi (H3.new (Ic y p d r));have HC:Hid (∀ (W:World) (N:Nat) (A R:M),Duo wa.heap.size wa W b y n N A r R [(w3.heap.size,Ic y p d r),(d,Fq y),(p,ES y)]→W.cell? ⟨w.heap.size,1,none⟩=some (.slice a l.length cap)∧W.cell? ⟨w.heap.size,2,none⟩=some (.slice ua us.length uc)∧W.cell? ⟨w.heap.size,3,none⟩=some (.slice fa fs.length fc)∧W.cell? ⟨w3.heap.size,3,none⟩=some (.pointer (some ⟨r,0,none⟩))):=Hi fun W N A R h=>by
  obtain⟨_,x1,x2,x3⟩:=HX _ h.Ay;exact⟨x1,x2,x3,by have:=h.cell (k:=w3.heap.size) (t:=40) (Dg) 3;exact this⟩
 have Yc:Hid (∀ (W:World) (R:M),Duo wa.heap.size wa W b y n 0 [] r R [(w3.heap.size,Ic y p d r),(d,Fq y),(p,ES y)]→Calls prog 28 #[.pointer (some ⟨p,0,none⟩),.slice a l.length cap] W fun e w'=>e=.returned (.int .i64 (Gl Ae n [] l).1)∧Duo wa.heap.size wa w' b y n 1 (Gl Ae n [] l).2 r R [(w3.heap.size,Ic y p d r),(d,Fq y),(p,ES y)]):=Hi fun W R h=>
  ark h (by omega) (by simp) (fun k=>rfl) (HL.below (Bc.trans (h.Ay.mono Bc.size))) Ha.rU Ha.rX (amP Ha.rU Ha.rX)
 have Ew:Hid (∀ (W:World) (N:Nat) (A:M),Duo wa.heap.size wa W b y n N A r [] [(w3.heap.size,Ic y p d r),(d,Fq y),(p,ES y)]→Calls prog 29 #[.pointer (some ⟨r,0,none⟩),.slice a l.length cap] W fun e w'=>e=.returned (.int .i64 (Gl Ae n [] l).1)∧Duo wa.heap.size wa w' b y n N A r (Gl Ae n [] l).2 [(w3.heap.size,Ic y p d r),(d,Fq y),(p,ES y)]):=Hi fun W N A h=>
  arn h Up.nil (by omega) (by unfold C8 sz lg;show 4≤_;omega) (fun k=>rfl) (HL.below (Bc.trans (h.Ay.mono Bc.size))) Ha.rU Ha.rX (amP Ha.rU Ha.rX)
 obtain⟨⟨k1,A1⟩,zQ⟩:=ex (Gl Ae n [] l);rw[zQ] at Yc Ew;dsimp only at Yc Ew;obtain⟨x1,x2,x3,x4⟩:=HC _ _ _ _ H4.out;have avb:=(CR.1 (H4.at_ _ _ (Dg))).1;obtain⟨w4,JA⟩:=ex (w3.alloc (Ic y p d r));rw[JA] at H4 x1 x2 x3 x4 avb;go_upto_region 8 with fail
 rw[show w3.alloc (.cells #[.pointer (some ⟨y,0,none⟩),.pointer (some ⟨p,0,none⟩),.pointer (some ⟨d,0,none⟩),.pointer (some ⟨r,0,none⟩)] 40)=w4 from JA];clear JA H3 x1 x2 x3 x4;generalize w3.heap.size=xb at*
 go_cut [9] from 37 to 48 (fun s9 wx=>s9=.bool true∧Duo wa.heap.size wa wx b y n 1 A1 r A1 [(xb,Ic y p d r),(d,Fq y),(p,ES y)])
 case first=>
  obtain⟨x1,x2,x3,x4⟩:=HC _ _ _ _ H4.out;refine ZT ?_
  go_region_law
   (first
    |(go_simp;go_at_call 28;refine(Yc _ _ (H4.step ((Af _ _).drew))).mono ?_;rintro e wA ⟨rfl,hA⟩;have HA:=Hi hA;obtain⟨xA1,lY,lZ,ma⟩:=HC _ _ _ _ hA;clear hA;go_wp2_with fail)
    |(go_simp;go_at_call 29;refine(Ew _ _ _ (H4.step ((Af _ _).drew))).mono ?_;rintro e wB ⟨rfl,hA⟩;have HB:=Hi hA;obtain⟨xA1,lY,lZ,ma⟩:=HC _ _ _ _ hA;clear hA;go_wp2_with fail)
    |(go_simp;go_at_call 29;refine(Ew _ _ _ HA).mono ?_;rintro e wE ⟨rfl,hA⟩;have HE:=Hi hA;obtain⟨xE1,xE2,xE3,mf⟩:=HC _ _ _ _ hA;clear hA;go_wp2_with fail)
    |(go_simp;go_at_call 28;refine(Yc _ _ HB).mono ?_;rintro e wE ⟨rfl,hA⟩;have HE:=Hi hA;obtain⟨xE1,xE2,xE3,mf⟩:=HC _ _ _ _ hA;clear hA;go_wp2_with fail))
  all_goals
   dsimp only[XD];go_wp2_with fail;go_meet
   case rel=>exact⟨by simp,HE⟩
 case rest=>
  obtain⟨rfl,h5⟩:=hcut;have H5:=Hi h5;clear h5 Yc Ew H4;have zR:A1=(Gl Ae n [] l).2:=by rw[zQ]
  have Y9:=Hi (show ∀ k,Fil.get A1 (A9.nm k)=none from by rw[zR];exact alc I5 MI (fun x h1 h2=>Mf.apart x h2 h1) Up.nil (fun k=>rfl) l);have Jo:=Hi (dH H5.k);have av:=Hi zR;clear zR;have JN:Hid (∀ (W:World) (R:M),Duo wa.heap.size wa W b y n 1 A1 r R [(xb,Ic y p d r),(d,Fq y),(p,ES y)]→Calls prog 30 #[.pointer (some ⟨d,0,none⟩),.slice ua us.length uc] W fun e w'=>e=.returned (.int .i64 (GX n A1 us).1)∧Duo wa.heap.size wa w' b y n 2 (GX n A1 us).2 r R [(xb,Ic y p d r),(d,Fq y),(p,ES y)]):=Hi fun W R h=>
   arp h (by omega) (by simp) Y9 (HU.below (Bc.trans (h.Ay.mono Bc.size))) Ha.u20 Ha.uks Ha.uF (amQ Ha.u20 Ha.uF)
  have BI:Hid (∀ (W:World) (N:Nat) (A:M),Duo wa.heap.size wa W b y n N A r A1 [(xb,Ic y p d r),(d,Fq y),(p,ES y)]→Calls prog 31 #[.pointer (some ⟨r,0,none⟩),.slice ua us.length uc] W fun e w'=>e=.returned (.int .i64 (GX n A1 us).1)∧Duo wa.heap.size wa w' b y n N A r (GX n A1 us).2 [(xb,Ic y p d r),(d,Fq y),(p,ES y)]):=Hi fun W N A h=>
   aro h Jo.1 (by omega) Jo.2.2 Y9 (HU.below (Bc.trans (h.Ay.mono Bc.size))) Ha.u20 Ha.uks Ha.uF (amQ Ha.u20 Ha.uF)
  obtain⟨⟨k2,A2⟩,zS⟩:=ex (GX n A1 us);rw[zS] at JN BI;dsimp only at JN BI;go_upto_region 9 with fail
  go_cut [9] from 49 to 63 (fun s9 wx=>s9=.bool true∧Duo wa.heap.size wa wx b y n 2 A2 r A2 [(xb,Ic y p d r),(d,Fq y),(p,ES y)])
  case first=>
   obtain⟨x1,x2,x3,x4⟩:=HC _ _ _ _ H5.out;refine ZT ?_
   go_region_law
    (first
     |(go_simp;go_at_call 30;refine(JN _ _ (H5.step ((Af _ _).drew))).mono ?_;rintro e wA ⟨rfl,hA⟩;have HA:=Hi hA;obtain⟨xA1,lY,lZ,ma⟩:=HC _ _ _ _ hA;clear hA;go_wp2_with fail)
     |(go_simp;go_at_call 31;refine(BI _ _ _ (H5.step ((Af _ _).drew))).mono ?_;rintro e wB ⟨rfl,hA⟩;have HB:=Hi hA;obtain⟨xA1,lY,lZ,ma⟩:=HC _ _ _ _ hA;clear hA;go_wp2_with fail)
     |(go_simp;go_at_call 31;refine(BI _ _ _ HA).mono ?_;rintro e wE ⟨rfl,hA⟩;have HE:=Hi hA;obtain⟨xE1,xE2,xE3,mf⟩:=HC _ _ _ _ hA;clear hA;go_wp2_with fail)
     |(go_simp;go_at_call 30;refine(JN _ _ HB).mono ?_;rintro e wE ⟨rfl,hA⟩;have HE:=Hi hA;obtain⟨xE1,xE2,xE3,mf⟩:=HC _ _ _ _ hA;clear hA;go_wp2_with fail))
   all_goals
    dsimp only[XD];go_wp2_with fail;go_meet
    case rel=>exact⟨by simp,HE⟩
  case rest=>
   obtain⟨rfl,h6⟩:=hcut;have H6:=Hi h6;clear h6 JN BI H5;have JV:=Hi (dH H6.k);have ax:=Hi (show A2=(GX n A1 us).2 by rw[zS]);have Gx:fs.length≤100000:=(by have:=Ha.f10;omega);have RH:Hid (∀ (W:World) (R:M),Duo wa.heap.size wa W b y n 2 A2 r R [(xb,Ic y p d r),(d,Fq y),(p,ES y)]→Calls prog 32 #[.pointer (some ⟨y,0,none⟩),.slice fa fs.length fc] W fun e w'=>e=.returned (.int .i64 (Gu n A2 fs))∧Duo wa.heap.size wa w' b y n 3 (F9 n A2 fs) r R [(xb,Ic y p d r),(d,Fq y),(p,ES y)]):=Hi fun W R h=>
    zb h (by omega) (HF.below (Bc.trans (h.Ay.mono Bc.size))) Gx fK (fun e=>akX e Ha.f10 Ha.agU)
   have Ov:Hid (∀ (W:World) (N:Nat) (A:M),Duo wa.heap.size wa W b y n N A r A2 [(xb,Ic y p d r),(d,Fq y),(p,ES y)]→Calls prog 33 #[.pointer (some ⟨r,0,none⟩),.slice fa fs.length fc] W fun e w'=>e=.returned (.int .i64 (Gu n A2 fs))∧Duo wa.heap.size wa w' b y n N A r (F9 n A2 fs) [(xb,Ic y p d r),(d,Fq y),(p,ES y)]):=Hi fun W N A h=>
    arl h JV.1 (by omega) JV.2.2 (HF.below (Bc.trans (h.Ay.mono Bc.size))) Gx fK (fun e=>akX e Ha.f10 Ha.agU)
   have Wm:=Hi (show F9 n A2 fs=dD n l us fs by unfold dD;rw[←av.out,←ax.out]);generalize Gu n A2 fs=k3 at*;generalize F9 n A2 fs=A3 at*;clear zQ zS Gx;go_upto_region 10 with fail
   go_cut [9] from 64 to 78 (fun s9 wx=>s9=.bool true∧Duo wa.heap.size wa wx b y n 3 A3 r A3 [(xb,Ic y p d r),(d,Fq y),(p,ES y)])
   case first=>
    obtain⟨x1,x2,x3,x4⟩:=HC _ _ _ _ H6.out;refine ZT ?_
    go_region_law
     (first
      |(go_simp;go_at_call 32;refine(RH _ _ (H6.step ((Af _ _).drew))).mono ?_;rintro e wA ⟨rfl,hA⟩;have HA:=Hi hA;obtain⟨xA1,lY,lZ,ma⟩:=HC _ _ _ _ hA;clear hA;go_wp2_with fail)
      |(go_simp;go_at_call 33;refine(Ov _ _ _ (H6.step ((Af _ _).drew))).mono ?_;rintro e wB ⟨rfl,hA⟩;have HB:=Hi hA;obtain⟨xA1,lY,lZ,ma⟩:=HC _ _ _ _ hA;clear hA;go_wp2_with fail)
      |(go_simp;go_at_call 33;refine(Ov _ _ _ HA).mono ?_;rintro e wE ⟨rfl,hA⟩;have HE:=Hi hA;obtain⟨xE1,xE2,xE3,mf⟩:=HC _ _ _ _ hA;clear hA;go_wp2_with fail)
      |(go_simp;go_at_call 32;refine(RH _ _ HB).mono ?_;rintro e wE ⟨rfl,hA⟩;have HE:=Hi hA;obtain⟨xE1,xE2,xE3,mf⟩:=HC _ _ _ _ hA;clear hA;go_wp2_with fail))
    all_goals
     dsimp only[XD];go_wp2_with fail;go_meet
     case rel=>exact⟨by simp,HE⟩
   case rest=>
    obtain⟨rfl,h7⟩:=hcut;have H7:=Hi (D9.lower h7.k Bc Bc.size);clear h7 RH Ov H6;rw[Wm.out] at H7;go_wp2_with fail;go_ret2;exact⟨b,y,p,d,r,xb,rfl,H7⟩
end Hv
end Go.Proofs.YtmbbhdebddbhoaaGreat
