/- ManC PrsP KeepP SwpP FckP HexP LinP HexW RefFil -/
import Derived.Test.YtkmninbcgipliaaGreatDoorQ9
import Derived.Laws.AppendOwnNone
import Derived.Lib.SplitLaws
set_option maxHeartbeats 2000000
set_option maxRecDepth 100000
set_option linter.all false
namespace Go.Proofs.YtkmninbcgipliaaGreatDoor
open Tryz
namespace Ap
open Go.Lib Af
def Lg(l:List T):Prop:=l.Pairwise (· < ·)
theorem ZI{a b:T}(h:a≤b):a < b∨a=b:=by
 rcases kQ a b with e|e|e
 ·exact .inl e
 ·exact .inr e
 ·exact absurd e (List.not_lt.2 h)
theorem afs(z:List T)(hz:z.Pairwise (· ≤ ·)):∀ m,m≤z.length→Lg (compactUpTo z.toArray m)∧∀ x,x∈compactUpTo z.toArray m↔x∈z.take m:=by
 intro m
 induction m with
 |zero=>exact fun _=>⟨by simp[Lg,compactUpTo],fun x=>by simp[compactUpTo]⟩
 |succ m ih=>
  intro hm;obtain⟨h1,h2⟩:=ih (by omega);have NN:∀ j,(h:j < z.length)→z.toArray[j]! =z[j]:=fun j h=>by rw[getElem!_pos z.toArray j (by simpa using h)];simp
  have VT:∀ x,x∈z.take (m+1)↔x∈z.take m∨x=z[m]'(by omega):=fun x=>by
   rw[CQ (by omega),EG,FC]
  rw[compactUpTo_succ];by_cases hk:keeps z.toArray m=true
  ·rw[Ac hk,NN m (by omega)];refine⟨List.pairwise_append.2 ⟨h1,by simp,fun a ha b hb=>?_⟩,fun x=>by rw[EG,h2 x,VT x,FC]⟩;rw[FC] at hb;subst hb;obtain⟨i,hi,e⟩:=List.mem_take_iff_getElem.1 ((h2 a).1 ha);have qO:i < m:=(by omega);have hne:z[m]'(by omega)≠z[m -1]'(by omega):=by
    have h3:=Q4 hk;rcases h3 with h3|h3
    ·omega
    ·rwa[NN m (by omega),NN (m -1) (by omega)] at h3
   have l1:z[m -1]'(by omega) < z[m]'(by omega):=by
    rcases ZI ((List.pairwise_iff_getElem.1 hz) (m -1) m (by omega) (by omega) (by omega)) with e|e
    ·exact e
    ·exact absurd e.symm hne
   by_cases qU:i=m -1
   ·subst qU;rw[←e];exact l1
   ·rcases ZI ((List.pairwise_iff_getElem.1 hz) i (m -1) (by omega) (by omega) (by omega)) with e'|e'
    ·rw[←e];exact XW e' l1
    ·rw[←e,e'];exact l1
  ·rw[Aa hk,En];refine⟨h1,fun x=>?_⟩;rw[h2 x,VT x];have h3:¬ (m=0∨z.toArray[m]! ≠z.toArray[m -1]!):=fun e=>hk (OT e)
   have RB:0 < m:=by
    by_cases e:m=0
    ·exact absurd (.inl e) h3
    ·omega
   have he:z.toArray[m]! =z.toArray[m -1]! :=Classical.byContradiction fun e=>h3 (.inr e)
   rw[NN m (by omega),NN (m -1) (by omega)] at he;refine⟨.inl,fun e=>e.elim id fun e=>?_⟩;rw[e,he];exact List.mem_take_iff_getElem.2 ⟨m -1,by omega,rfl⟩
theorem amS(l:List T):(l.mergeSort fun x y=>decide (x≤y)).Pairwise (· ≤ ·):=by
 have:=List.pairwise_mergeSort (le:=fun x y:T=>decide (x≤y)) (fun a b c h1 h2=>by simpa using List.le_trans (by simpa using h1) (by simpa using h2)) (fun a b=>by
  rcases List.le_total a b with h|h<;>simp[h]) l
 exact this.imp (fun h=>by simpa using h)
theorem JQ(l:List T):Lg (Bc l):=by
 unfold Bc compact;exact(afs _ (amS l) _ (Ae _)).1
theorem Eg(l:List T)(x:T):x∈Bc l↔x∈l:=by
 unfold Bc compact;rw[(afs _ (amS l) _ (Ae _)).2 x,Dq];exact List.mem_mergeSort
theorem QU:∀ {a b:List T},Lg a→Lg b→(∀ x,x∈a↔x∈b)→a=b
 |[],[],_,_,_=>rfl
 |[],y :: b,_,_,h=>absurd ((h y).2 (by simp)) (by simp)
 |x :: a,[],_,_,h=>absurd ((h x).1 (by simp)) (by simp)
 |x :: a,y :: b,ha,hb,h=>by
  obtain⟨a1,a2⟩:=JX.1 ha;obtain⟨b1,b2⟩:=JX.1 hb;have J5:x=y:=by
   rcases BZ.1 ((h x).1 (by simp)) with e|e
   ·exact e
   ·rcases BZ.1 ((h y).2 (by simp)) with e'|e'
    ·exact e'.symm
    ·exact absurd (a1 y e') (QQ (b1 x e))
  subst J5;rw[QU a2 b2 fun z=>⟨fun hz=>?_,fun hz=>?_⟩]
  ·rcases BZ.1 ((h z).1 (GI _ hz)) with e|e
   ·exact absurd (a1 z hz) (by rw[e];exact RL _)
   ·exact e
  ·rcases BZ.1 ((h z).2 (GI _ hz)) with e|e
   ·exact absurd (b1 z hz) (by rw[e];exact RL _)
   ·exact e
theorem ll{l:List T}(h:Lg l):Bc l=l:=QU (JQ l) h (Eg l)
def JM(l:List T)(x:T):List T:=l.takeWhile (fun y=>decide (y < x))++(if(l.dropWhile fun y=>decide (y < x)).head?=some x then l.dropWhile (fun y=>decide (y < x)) else x :: l.dropWhile fun y=>decide (y < x))
theorem aci(y:T)(l:List T)(x:T):JM (y :: l) x=if y < x then y :: JM l x else if y=x then y :: l else x :: y :: l:=by
 unfold JM;by_cases h:y < x
 ·rw[List.takeWhile_cons_of_pos (by simpa using h),List.dropWhile_cons_of_pos (by simpa using h),Ac h];rfl
 ·rw[List.takeWhile_cons_of_neg (by simpa using h),List.dropWhile_cons_of_neg (by simpa using h),Aa h];simp only[List.head?_cons,Ci,Ev]
theorem alE(l:List T)(x z:T):z∈JM l x↔z∈l∨z=x:=by
 induction l with
 |nil=>simp[JM]
 |cons y l ih=>
  rw[aci];split
  ·rw[BZ,ih,BZ,or_assoc]
  ·split
   ·rename_i h;rw[BZ];subst h;constructor
    ·exact .inl
    ·rintro(e|e)
     ·exact e
     ·exact .inl e
   ·rw[BZ];exact or_comm
theorem ay5{l:List T}(h:Lg l)(x:T):Lg (JM l x):=by
 induction l with
 |nil=>simp[JM,Lg]
 |cons y l ih=>
  obtain⟨h1,h2⟩:=JX.1 h;rw[aci];split
  ·rename_i hy
   refine JX.2 ⟨fun z hz=>?_,ih h2⟩;rcases(alE l x z).1 hz with e|e
   ·exact h1 z e
   ·rw[e];exact hy
  ·rename_i hy
   split
   ·exact h
   ·rename_i hne
    have J5:x < y:=by
     rcases kQ x y with e|e|e
     ·exact e
     ·exact absurd e.symm hne
     ·exact absurd e hy
    refine JX.2 ⟨fun z hz=>?_,h⟩;rcases BZ.1 hz with e|e
    ·rw[e];exact J5
    ·exact XW J5 (h1 z e)
def acx(l:List T):List T:=l.foldl JM []
theorem ayI(l:List T):∀ o,Lg o→Lg (l.foldl JM o)∧∀ z,z∈l.foldl JM o↔z∈o∨z∈l:=by
 induction l with
 |nil=>exact fun o h=>⟨h,fun z=>by simp⟩
 |cons x l ih=>
  intro o h;obtain⟨h1,h2⟩:=ih _ (ay5 h x);refine⟨h1,fun z=>?_⟩
  show z∈l.foldl JM (JM o x)↔_
  rw[h2 z,alE,BZ,or_assoc]
theorem acy(l:List T):acx l=Bc l:=by
 obtain⟨h1,h2⟩:=ayI l [] List.Pairwise.nil;exact QU h1 (JQ l) fun z=>by rw[Eg];exact(h2 z).trans (by simp)
end Ap
namespace Ap
open Go.RowKit Go.Maps Aq Af
theorem uY{w:World}{ops:Array Oper}{rest:List Oper}{o:Oper}{a:Act}{Q:Exit→Act→World→Prop}(PO:o.guard=none)(s x:Operand)
  (ho:o.op=.call { callee:=.builtin .append,args:=#[s,x],argTypes:=#[61,61] })
  (base:Nat)(v:Value)(l k:List T)(hs:a.eval s=v)(hown:Bq w base v l)(q:Option Addr)(cap:Nat)(hx:a.eval x=.slice q k.length cap)(hk:Dv w q k)(hq:q=none→cap=0)
  (hn:l.length+k.length≤1000000)(Mc:base≤w.heap.size)
  (h:∀ v' w',Bq w' base v' (l++k)→w.grownBy w' v.ownBlock→(v'.ownBlock=v.ownBlock∨v'.ownBlock=some w.heap.size)→wpList prog ops Q rest (a.put o.dst v') w'):
  wpList prog ops Q (o :: rest) a w:=by
 obtain⟨i0,Bg,AX,AY,Ba⟩:=DI acR;cases q with
 |none=>
  obtain rfl:k=[]:=by
   cases k with
   |nil=>rfl
   |cons y k=>
    obtain⟨p,hp,_⟩:=hk 0 (by simp);cases hp
  rw[hq rfl] at hx;refine wpList_append_own_none PO s x _ ho base 9 i0 1 underlying61 Bg v l.length (strCells l) hs hown hx ?_;exact h v w (by rw[En];exact hown) (World.grownBy.refl w _) (.inl rfl)
 |some ad=>
  refine wpList_append_own_at w PO s x _ ho base 9 i0 _ 1 16 underlying61 Bg AX AY Ba rfl (by decide) v l.length (strCells l) hs hown ad k.length cap (strCells k) hx (by rw[Nat.mul_one];simp[strCells]) (fun j u hu=>?_) (fun u hu=>?_) (by unfold maxLen;omega) (by omega) Mc ?_
  ·have hj:j < k.length:=by
    have:=(TK.1 hu).1;simpa[strCells] using this
   obtain⟨p,hp,hc⟩:=hk j hj;cases hp;rw[Y8 k j hj] at hu;rw[hc,hu]
  ·unfold strCells at hu;obtain⟨y,_,rfl⟩:=BA.1 hu;rfl
  ·intro v' w' h1 h2 _ h4;refine h v' w' ?_ h2 h4;unfold Bq;rw[Az,show strCells (l++k)=strCells l++strCells k by unfold strCells;rw[D6]];exact h1
section
variable {w w1:World}{b y n N:Nat}{bl:Nat→Prop}{A:M}
end
end Ap
namespace Ap
open Go.RowKit Go.Maps Aq Af
attribute [local go_sem] O4
theorem UI{F:Nat→Prop}{W W':World}(hu:A7 F W W')(hF:∀ k o,F k→W.heap[k]?=some o→o.isCells=true):KeepsOthers W W':=
 ⟨hu.size,fun k o hk ho=>(hu.block k (Dm.1 hk).1 (fun f=>by have:=hF k o f hk;rw[ho] at this;cases this)).trans hk⟩
section
variable {w W W1 W2:World}{cB:Nat}{M:Array Value}{l:List Am}{v:Value}
end
end Ap
namespace Bu
open Go.Lib Af Ap Aq
theorem eu{a b:T}:¬ a < b↔b≤a:=List.not_lt
theorem kP{a b:T}(h:a < b):a≤b:=eu.1 (QQ h)
theorem awz{a b c:T}(h:a < b)(k:b≤c):a < c:=by
 rcases ZI k with e|e
 ·exact XW h e
 ·rw[←e];exact h
def CR(l:M):Prop:=l.Pairwise (fun a b=>a.1≤b.1)
instance (l:M):Decidable (CR l):=inferInstanceAs (Decidable (l.Pairwise _))
theorem CR.QR{l:M}(h:Up l):CR l:=h.imp kP
def G9:M→M→M
 |[],b=>b
 |x :: a,[]=>x :: a
 |x :: a,y :: b=>if y.1 < x.1 then y :: G9 (x :: a) b else x :: G9 a (y :: b)
termination_by a b=>a.length+b.length
theorem sW(a:M):G9 a []=a:=by cases a<;>simp[G9]
theorem kW(b:M):G9 [] b=b:=by simp[G9]
theorem kT(x y:T×T)(a b:M):G9 (x :: a) (y :: b)=if y.1 < x.1 then y :: G9 (x :: a) b else x :: G9 a (y :: b):=by rw[G9]
theorem ZM:∀ (n:Nat) (a b:M),a.length+b.length≤n→(G9 a b).Perm (a++b)
 |_,[],b,_=>by rw[kW];exact List.Perm.refl _
 |_,x :: a,[],_=>by rw[sW,En]
 |0,x :: a,y :: b,h=>by simp at h
 |n+1,x :: a,y :: b,h=>by
  rw[kT];split
  ·refine(List.Perm.cons y (ZM n (x :: a) b (by simp at h ⊢;omega))).trans ?_;exact(List.perm_middle (l₁:=x :: a)).symm
  ·exact List.Perm.cons x (ZM n a (y :: b) (by simp at h ⊢;omega))
theorem sZ:∀ (n:Nat) (a b:M),a.length+b.length≤n→CR a→CR b→CR (G9 a b)
 |_,[],b,_,_,hb=>by rw[kW];exact hb
 |_,x :: a,[],_,ha,_=>by rw[sW];exact ha
 |0,x :: a,y :: b,h,_,_=>by simp at h
 |n+1,x :: a,y :: b,h,ha,hb=>by
  obtain⟨a1,a2⟩:=JX.1 ha;obtain⟨b1,b2⟩:=JX.1 hb;rw[kT];split
  ·rename_i hlt
   refine JX.2 ⟨fun z hz=>?_,sZ n (x :: a) b (by simp at h ⊢;omega) ha b2⟩;rcases EG.1 ((ZM (n+1) (x :: a) b (by simp at h ⊢;omega)).mem_iff.1 hz) with e|e
   ·rcases BZ.1 e with rfl|e
    ·exact kP hlt
    ·exact List.le_trans (kP hlt) (a1 z e)
   ·exact b1 z e
  ·rename_i hlt
   refine JX.2 ⟨fun z hz=>?_,sZ n a (y :: b) (by simp at h ⊢;omega) a2 hb⟩;rcases EG.1 ((ZM (n+1) a (y :: b) (by simp at h ⊢;omega)).mem_iff.1 hz) with e|e
   ·exact a1 z e
   ·rcases BZ.1 e with rfl|e
    ·exact eu.1 hlt
    ·exact List.le_trans (eu.1 hlt) (b1 z e)
def F6(l:M):M:=if h:l.length < 2 then l else G9 (F6 (l.take (l.length / 2))) (F6 (l.drop (l.length / 2)))
termination_by l.length
decreasing_by
 ·rw[Be];omega
 ·rw[Cs];omega
theorem fq{l:M}(h:l.length < 2):F6 l=l:=by rw[F6,dif_pos h]
theorem acO{l:M}(h:¬ l.length < 2):F6 l=G9 (F6 (l.take (l.length / 2))) (F6 (l.drop (l.length / 2))):=by rw[F6,dif_neg h]
theorem uF:∀ (n:Nat) (l:M),l.length≤n→(F6 l).Perm l∧CR (F6 l)
 |0,l,h=>by
  obtain rfl:l=[]:=JW.1 (by omega);rw[fq (by simp)];exact⟨List.Perm.refl _,List.Pairwise.nil⟩
 |n+1,l,h=>by
  by_cases h2:l.length < 2
  ·rw[fq h2];refine⟨List.Perm.refl _,?_⟩
   match l,h2 with
   |[],_=>exact List.Pairwise.nil
   |[x],_=>exact Sb _ _
  ·rw[acO h2];obtain⟨p1,s1⟩:=uF n (l.take (l.length / 2)) (by rw[Be];omega);obtain⟨p2,s2⟩:=uF n (l.drop (l.length / 2)) (by rw[Cs];omega);refine⟨?_,sZ _ _ _ (Ae _) s1 s2⟩;have:=(ZM _ (F6 (l.take (l.length / 2))) (F6 (l.drop (l.length / 2))) (Ae _)).trans (p1.append p2);rwa[Mw] at this
theorem lJ(l:M):(F6 l).Perm l:=(uF _ l (Ae _)).1
theorem amW(l:M):CR (F6 l):=(uF _ l (Ae _)).2
theorem fo(l:M):(F6 l).length=l.length:=(lJ l).length_eq
theorem axd(a b:M):(G9 a b).length=a.length+b.length:=by rw[(ZM _ a b (Ae _)).length_eq,Az]
theorem uS{l:M}(h:CR l)(hn:(l.map (·.1)).Nodup):Up l:=by
 induction l with
 |nil=>exact Up.nil
 |cons x l ih=>
  obtain⟨h1,h2⟩:=JX.1 h;obtain⟨n1,n2⟩:=Ju.1 hn;refine JX.2 ⟨fun z hz=>?_,ih h2 n2⟩;rcases ZI (h1 z hz) with e|e
  ·exact e
  ·exact absurd (Hl (f:=(·.1)) hz) (by rw[←e];exact n1)
theorem an0{l:M}(h:Up l):F6 l=l:=
 ah (uS (amW l) (((lJ l).map (·.1)).nodup_iff.2 h.nodup)) h (fun _=>(lJ l).mem_iff)
theorem axe{l:M}(h:Up l)(k v:T):G9 (del k l) [(k,v)]=put k v l:=by
 have hp:=ZM _ (del k l) [(k,v)] (Ae _);have hd:=h.del k;refine ah (uS (sZ _ _ _ (Ae _) (CR.QR hd) (Sb _ _)) ?_) (h.put k v) fun p=>?_
 ·rw[(hp.map (·.1)).nodup_iff,D6,List.nodup_append];refine⟨hd.nodup,by simp,fun a ha b hb=>?_⟩;simp only[Ce,Kq,FC] at hb;subst hb;obtain⟨q,hq,rfl⟩:=BA.1 ha;exact(XX.1 hq).2
 ·rw[hp.mem_iff,TC h,EG,XX,FC];exact⟨fun e=>e.elim .inr .inl,fun e=>e.elim .inr .inl⟩
def Eb(l:M):List T:=Bc (l.map (·.1))
theorem aAK{a b c:List T}(ha:Lg a)(hb:Lg b)(hc:Lg c)(h:∀ x,x∈a↔x∈b∨x∈c)(hd:∀ x,x∈b→x∈c→False):a.length=b.length+c.length:=by
 have nd:∀ {l:List T},Lg l→l.Nodup:=fun hl=>by rw[List.nodup_iff_pairwise_ne];exact hl.imp fun h=>KV h
 rw[←Az];refine List.Perm.length_eq ?_;refine(List.perm_ext_iff_of_nodup (nd ha) ?_).2 fun x=>by rw[h x,EG]
 rw[List.nodup_append];exact⟨nd hb,nd hc,fun x hx y hy e=>hd x hx (by rw[e];exact hy)⟩
theorem am7(l:List T):(Bc l).length=l.length↔l.Nodup:=by
 constructor
 ·induction l with
  |nil=>exact fun _=>List.nodup_nil
  |cons x l ih=>
   intro h;have hle:=UM l;by_cases hx:x∈l
   ·have e:Bc (x :: l)=Bc l:=QU (JQ _) (JQ _) fun z=>by
     rw[Eg,Eg,BZ];exact⟨fun e=>e.elim (fun e=>by rw[e];exact hx) id,.inr⟩
    rw[e,BN] at h;omega
   ·have e:=aAK (JQ (x :: l)) (Sb _ x) (JQ l) (fun z=>by rw[Eg,Eg,BZ,FC]) (fun z h1 h2=>hx (by rw[FC] at h1;rw[←h1];exact(Eg _ _).1 h2));rw[h,BN,Kn] at e;exact Ju.2 ⟨hx,ih (by omega)⟩
 ·intro h;refine List.Perm.length_eq ?_;refine(List.perm_ext_iff_of_nodup ?_ h).2 fun x=>Eg l x
  rw[List.nodup_iff_pairwise_ne];exact(JQ l).imp fun h=>KV h
theorem ak8{l:M}(h:CR l):(Eb l).length=l.length↔Up l:=by
 have:=am7 (l.map (·.1));rw[Ca] at this;unfold Eb;rw[this];exact⟨uS h,Up.nodup⟩
def heads:M→List T
 |[]=>[]
 |x :: l=>x.1 :: heads (l.dropWhile fun y=>decide (y.1=x.1))
termination_by l=>l.length
decreasing_by
 have:=(List.dropWhile_sublist (l:=l) fun y=>decide (y.1=x.1)).length_le;simp only[BN];omega
theorem ai0:heads []=[]:=by rw[heads]
theorem ahZ(x:T×T)(l:M):heads (x :: l)=x.1 :: heads (l.dropWhile fun y=>decide (y.1=x.1)):=by rw[heads]
theorem akK{α:Type}(p:α→Bool):∀ {l:List α} {x:α},x∈l.takeWhile p→p x=true
 |[],x,h=>by simp at h
 |y :: l,x,h=>by
  rw[List.takeWhile_cons] at h;split at h
  ·rename_i hy
   rcases BZ.1 h with rfl|h
   ·exact hy
   ·exact akK p h
  ·simp at h
theorem ai1:∀ (n:Nat) (l:M),l.length≤n→CR l→Lg (heads l)∧∀ k,k∈heads l↔∃ p∈l,p.1=k
 |_,[],_,_=>by rw[ai0];exact⟨List.Pairwise.nil,fun k=>by simp⟩
 |0,x :: l,h,_=>by simp at h
 |n+1,x :: l,h,hs=>by
  obtain⟨s1,s2⟩:=JX.1 hs;rw[ahZ];have QI:=List.dropWhile_sublist (l:=l) fun y=>decide (y.1=x.1)
  have hl:=QI.length_le;obtain⟨i1,i2⟩:=ai1 n _ (by simp at h;omega) (s2.sublist QI);have Gl:∀ z∈l.dropWhile (fun y=>decide (y.1=x.1)),x.1 < z.1:=by
   intro z hz;have hne:l.dropWhile (fun y=>decide (y.1=x.1))≠[]:=List.ne_nil_of_mem hz;cases hd:l.dropWhile (fun y=>decide (y.1=x.1)) with
   |nil=>exact absurd hd hne
   |cons w r=>
    have hw:w.1≠x.1:=by
     have:=List.head_dropWhile_not (fun y:T×T=>decide (y.1=x.1)) hne;simp only[hd,List.head_cons] at this;simpa using this
    have XT:x.1 < w.1:=by
     rcases ZI (s1 w (QI.subset (by rw[hd];simp))) with e|e
     ·exact e
     ·exact absurd e.symm hw
    rw[hd] at hz;have hr:CR (w :: r):=(by rw[←hd];exact s2.sublist QI);rcases BZ.1 hz with rfl|hz
    ·exact XT
    ·exact awz XT ((JX.1 hr).1 z hz)
  refine⟨JX.2 ⟨fun k hk=>?_,i1⟩,fun k=>?_⟩
  ·obtain⟨p,hp,rfl⟩:=(i2 k).1 hk;exact Gl p hp
  ·rw[BZ,i2 k];constructor
   ·rintro(rfl|⟨p,hp,rfl⟩)
    ·exact⟨x,by simp,rfl⟩
    ·exact⟨p,GI _ (QI.subset hp),rfl⟩
   ·rintro⟨p,hp,rfl⟩;rcases BZ.1 hp with rfl|hp
    ·exact .inl rfl
    ·by_cases e:p.1=x.1
     ·exact .inl e
     ·refine .inr ⟨p,?_,rfl⟩;rw[←List.takeWhile_append_dropWhile (p:=fun y:T×T=>decide (y.1=x.1)) (l:=l)] at hp;rcases EG.1 hp with hp|hp
      ·have:=akK _ hp;exact absurd (by simpa using this) e
      ·exact hp
theorem aui(l:M):heads (F6 l)=Eb l:=by
 obtain⟨h1,h2⟩:=ai1 _ (F6 l) (Ae _) (amW l);refine QU h1 (JQ _) fun k=>?_
 show _↔k∈Bc (l.map (·.1))
 rw[h2 k,Eg,BA];exact⟨fun⟨p,hp,e⟩=>⟨p,(lJ l).mem_iff.1 hp,e⟩,fun⟨p,hp,e⟩=>⟨p,(lJ l).mem_iff.2 hp,e⟩⟩
def flat(l:M):List T:=l.flatMap fun p=>[p.1,p.2]
def RZ:List T→M
 |a :: b :: l=>(a,b) :: RZ l
 |_=>[]
theorem X6(p:T×T)(l:M):flat (p :: l)=p.1 :: p.2 :: flat l:=rfl
theorem zt(a b:M):flat (a++b)=flat a++flat b:=by unfold flat;rw[Nk]
theorem p8(l:M):(flat l).length=2*l.length:=by
 induction l with
 |nil=>rfl
 |cons p l ih=>rw[X6,BN,BN,ih,BN];omega
theorem uQ:∀ l:M,RZ (flat l)=l
 |[]=>rfl
 |p :: l=>by rw[X6,RZ,uQ l]
theorem agk:∀ (n:Nat) (l:List T),l.length=2*n→flat (RZ l)=l∧(RZ l).length=n
 |0,l,h=>by
  obtain rfl:l=[]:=JW.1 (by omega);exact⟨rfl,rfl⟩
 |n+1,l,h=>by
  match l,h with
  |a :: b :: l,h=>
   obtain⟨h1,h2⟩:=agk n l (by simp at h;omega);rw[RZ,X6,h1,BN,h2];exact⟨rfl,rfl⟩
def FI(l:M):Option T:=if l.length≤65535 then(BB (flat l)).map (A9.le 2 l.length++ ·) else none
def Ht(s:T):Option M:=if s.length < 2 then none else
 (EF (2*A9.val (s.take 2)) (s.drop 2)).bind fun q=>if q.2=[]∧CR (RZ q.1) then some (RZ q.1) else none
theorem alW:∀ (l:List T) (a r:T),BB l=some a→EF l.length (a++r)=some (l,r)
 |[],a,r,h=>by
  simp only[BB,Ci] at h;subst h;rfl
 |s :: l,a,r,h=>by
  simp only[BB] at h;cases h1:Em s with
  |none=>rw[h1] at h;cases h
  |some x=>
   cases h2:BB l with
   |none=>rw[h1,h2] at h;cases h
   |some y=>
    rw[h1,h2] at h;simp only[CF,EP,Ci] at h;subst h;unfold Em at h1;split at h1
    ·rename_i hs
     simp only[Ci] at h1;subst h1;have hv:A9.val ((A9.le 2 s.length++s++y++r).take 2)=s.length:=by
      rw[Dy,Dy,IP (A9.BV _ _),A9.uV];exact Nat.mod_eq_of_lt (by omega)
     have KU:DF (A9.le 2 s.length++s++y++r)=some (s,2+s.length):=by
      unfold DF;rw[hv,Aa (by simp[A9.BV]),Ac (by simp[A9.BV])];have:(A9.le 2 s.length++s++y++r).take (2+s.length)=A9.le 2 s.length++s:=by
       rw[Dy,IP (by rw[Az,A9.BV])]
      rw[this,Mt (A9.BV _ _)]
     show(DF (A9.le 2 s.length++s++y++r)).bind _=_
     rw[KU];simp only[CF];have:(A9.le 2 s.length++s++y++r).drop (2+s.length)=y++r:=by
      rw[Dy,Mt (by rw[Az,A9.BV])]
     rw[this,alW l y r h2];rfl
    ·cases h1
theorem pK{l:M}{s:T}(h:FI l=some s)(hs:CR l):Ht s=some l:=by
 unfold FI at h;split at h
 ·rename_i hl
  cases h1:BB (flat l) with
  |none=>rw[h1] at h;cases h
  |some a=>
   rw[h1] at h;simp only[EP,Ci] at h;subst h;have hv:A9.val ((A9.le 2 l.length++a).take 2)=l.length:=by
    rw[IP (A9.BV _ _),A9.uV];exact Nat.mod_eq_of_lt (by omega)
   unfold Ht;rw[hv,Aa (by simp[A9.BV]),Mt (A9.BV _ _)];have:=alW (flat l) a [] h1;rw[En,p8] at this;rw[this];simp only[CF];rw[uQ,Ac ⟨trivial,hs⟩]
 ·cases h
theorem agR{s:T}{l:M}(h:Ht s=some l):CR l∧FI l=some s:=by
 unfold Ht at h;split at h
 ·cases h
 ·rename_i h2
  cases h1:EF (2*A9.val (s.take 2)) (s.drop 2) with
  |none=>rw[h1] at h;cases h
  |some q=>
   rw[h1] at h;simp only[CF] at h;split at h
   ·rename_i hq
    simp only[Ci] at h;obtain⟨e1,a,e2,e3⟩:=acu (l:=q.1) (r:=q.2) h1;obtain⟨f1,f2⟩:=agk _ q.1 e1;rw[hq.1,En] at e3;subst h;have hv:A9.val (s.take 2) < 256 ^ 2:=by
     have:=A9.Jb (s.take 2);rwa[Be,Jc (by omega)] at this
    have e:A9.le 2 (A9.val (s.take 2))=s.take 2:=by
     have:=A9.kN (s.take 2);rwa[Be,Jc (by omega)] at this
    refine⟨hq.2,?_⟩;unfold FI;rw[f2,Ac (by omega),f1,e2];simp only[EP];rw[e,e3,Mw]
   ·cases h
def BS(l:M):Option T:=(FI l).bind fun s=>if s.length+4≤65535 then some (A9.Fv s) else none
def ZU(nm:T→T)(ok:T×T→Prop)[DecidablePred ok](name data:T):Option M:=
 if(A9.EE data).2=0 then(Ht (A9.EE data).1).bind fun l=>if l≠[]∧(Eb l).length=l.length∧∀ p∈l,nm p.1=name∧ok p then some l else none else none
theorem ayq{nm:T→T}{ok:T×T→Prop}[DecidablePred ok]{name data:T}{l:M}(h:ZU nm ok name data=some l):l≠[]∧Up l∧(∀ p∈l,nm p.1=name∧ok p)∧∃ s,FI l=some s∧data=A9.Fv s:=by
 unfold ZU at h;split at h
 ·rename_i h0
  cases h1:Ht (A9.EE data).1 with
  |none=>rw[h1] at h;cases h
  |some k=>
   rw[h1] at h;simp only[CF] at h;split at h
   ·rename_i hk
    simp only[Ci] at h;subst h;obtain⟨g1,g2⟩:=agR h1;exact⟨hk.1,(ak8 g1).1 hk.2.1,hk.2.2,_,g2,(A9.ac6 h0).symm⟩
   ·cases h
 ·cases h
theorem acs{nm:T→T}{ok:T×T→Prop}[DecidablePred ok]{name d:T}{l:M}(h:BS l=some d)(hl:l≠[])(hu:Up l)(hn:∀ p∈l,nm p.1=name∧ok p):ZU nm ok name d=some l:=by
 unfold BS at h;cases h1:FI l with
 |none=>rw[h1] at h;cases h
 |some s=>
  rw[h1] at h;simp only[CF] at h;split at h
  ·simp only[Ci] at h;subst h;unfold ZU;rw[A9.ac7,Ac rfl];simp only;rw[pK h1 (CR.QR hu)];simp only[CF];rw[Ac ⟨hl,(ak8 (CR.QR hu)).2 hu,hn⟩]
  ·cases h
end Bu
namespace Kp
open Go.Lib Af Ap Aq Bu
structure Kind where
 nm:T→T
 ours:T→Bool
 ok:T×T→Bool
structure Kind.BX(K:Kind):Prop where
 Nb:∀ k,K.ours (K.nm k)=true
 len:∀ k,(K.nm k).length=17
section
variable {K:Kind}{A:M}
def Kind.Cw(K:Kind)(name data:T):Option M:=ZU K.nm (fun p=>K.ok p=true) name data
def fileOf(K:Kind)(A:M)(name:T):Option M:=(get A name).bind (K.Cw name)
def CK(K:Kind)(A:M)(k:T):Option T:=(fileOf K A (K.nm k)).bind fun l=>get l k
def EN(K:Kind)(A:M):M:=A.flatMap fun p=>if K.ours p.1=true then(K.Cw p.1 p.2).getD [] else[]
def Cm(K:Kind)(A:M):List T:=Eb (EN K A)
theorem Nf{name data:T}{l:M}(h:K.Cw name data=some l):l≠[]∧Up l∧(∀ p∈l,K.nm p.1=name∧K.ok p=true)∧∃ s,FI l=some s∧data=A9.Fv s:=ayq h
theorem ek(hK:K.BX)(hu:Up A)(k v:T):(k,v)∈EN K A↔CK K A k=some v:=by
 unfold EN;rw[Nl];constructor
 ·rintro⟨p,hp,hm⟩;split at hm
  ·cases hr:K.Cw p.1 p.2 with
   |none=>rw[hr] at hm;simp at hm
   |some l=>
    rw[hr] at hm;simp only[Option.getD_some] at hm;obtain⟨_,h2,h3,_⟩:=Nf hr;have hn:K.nm k=p.1:=(h3 _ hm).1;unfold CK fileOf;rw[hn,get_mem hu (show(p.1,p.2)∈A from hp)];simp only[CF];rw[hr];simp only[CF];exact get_mem h2 hm
  ·simp at hm
 ·intro h;unfold CK fileOf at h;cases hg:get A (K.nm k) with
  |none=>rw[hg] at h;cases h
  |some d=>
   rw[hg] at h;simp only[CF] at h;cases hr:K.Cw (K.nm k) d with
   |none=>rw[hr] at h;cases h
   |some l=>
    rw[hr] at h;simp only[CF] at h;refine⟨(K.nm k,d),get_some hg,?_⟩;rw[Ac (hK.Nb k),hr];exact get_some h
theorem TB(hK:K.BX)(hu:Up A)(k:T):k∈Cm K A↔(CK K A k).isSome=true:=by
 unfold Cm Eb;rw[Eg,BA];constructor
 ·rintro⟨p,hp,rfl⟩;rw[(ek hK hu p.1 p.2).1 hp];rfl
 ·intro h;obtain⟨v,hv⟩:=LM.1 h;exact⟨(k,v),(ek hK hu k v).2 hv,rfl⟩
theorem abI:Lg (Cm K A):=JQ _
theorem avZ{A':M}(hK:K.BX)(hu:Up A)(VU:Up A')(h:∀ k,(CK K A k).isSome=(CK K A' k).isSome):Cm K A=Cm K A':=
 QU abI abI fun k=>by rw[TB hK hu,TB hK VU,h k]
theorem zk:∀ {A:M},Up A→((EN K A).map (·.1)).Nodup
 |[],_=>by simp[EN]
 |p :: A,h=>by
  obtain⟨h1,h2⟩:=JX.1 h;have ih:=zk h2;unfold EN at ih ⊢;rw[Q0,D6,List.nodup_append];refine⟨?_,ih,fun a ha b hb=>?_⟩
  ·split
   ·cases hr:K.Cw p.1 p.2 with
    |none=>simp
    |some l=>exact(Nf hr).2.1.nodup
   ·simp
  ·rintro rfl;obtain⟨x,hx,rfl⟩:=BA.1 ha;obtain⟨y,hy,e⟩:=BA.1 hb;have n1:K.nm x.1=p.1:=by
    split at hx
    ·cases hr:K.Cw p.1 p.2 with
     |none=>rw[hr] at hx;simp at hx
     |some l=>rw[hr] at hx;exact((Nf hr).2.2.1 _ hx).1
    ·simp at hx
   obtain⟨q,hq,hy⟩:=Nl.1 hy;have n2:K.nm y.1=q.1:=by
    split at hy
    ·cases hr:K.Cw q.1 q.2 with
     |none=>rw[hr] at hy;simp at hy
     |some l=>rw[hr] at hy;exact((Nf hr).2.2.1 _ hy).1
    ·simp at hy
   have:=h1 q hq;rw[←n1,←n2,e] at this;exact RL _ this
theorem sD(hu:Up A):(Cm K A).length=(EN K A).length:=by
 have:=(am7 ((EN K A).map (·.1))).2 (zk hu);rw[Ca] at this;exact this
def J6(K:Kind)(A:M)(ks:List T)(name:T):M:=((fileOf K A name).getD []).filter fun p=>decide (p.1∉ks)
def Uc(K:Kind)(A:M)(ks:List T)(name:T):Am:=if J6 K A ks name=[] then⟨name,[],true⟩ else⟨name,(BS (J6 K A ks name)).getD [],false⟩
def Ff(K:Kind)(A:M)(ks:List T):List Am:=(Bc (ks.map K.nm)).map (Uc K A ks)
theorem iO(ks:List T)(name:T):(Uc K A ks name).name=name:=by unfold Uc;split<;>rfl
theorem ang{l k:M}(h:k.Sublist l):∀ {a:T},BB (flat l)=some a→∃ b,BB (flat k)=some b∧b.length≤a.length:=by
 induction h with
 |slnil=>exact fun {a} h=>⟨a,h,Ae _⟩
 | @cons k' l' x h ih=>
  intro a ha;rw[X6] at ha;simp only[BB] at ha;cases h1:Em x.1 with
  |none=>rw[h1] at ha;cases ha
  |some u=>
   cases h2:Em x.2 with
   |none=>rw[h1,h2] at ha;cases ha
   |some v=>
    cases h3:BB (flat l') with
    |none=>rw[h1,h2,h3] at ha;cases ha
    |some c=>
     rw[h1,h2,h3] at ha;simp only[CF,EP,Ci] at ha;subst ha;obtain⟨b,hb,hl⟩:=ih h3;exact⟨b,hb,by simp only[Az];omega⟩
 | @cons_cons k' l' x h ih=>
  intro a ha;rw[X6] at ha ⊢;simp only[BB] at ha ⊢;cases h1:Em x.1 with
  |none=>rw[h1] at ha;cases ha
  |some u=>
   cases h2:Em x.2 with
   |none=>rw[h1,h2] at ha;cases ha
   |some v=>
    cases h3:BB (flat l') with
    |none=>rw[h1,h2,h3] at ha;cases ha
    |some c=>
     rw[h1,h2,h3] at ha;simp only[CF,EP,Ci] at ha;subst ha;obtain⟨b,hb,hl⟩:=ih h3;rw[hb];simp only[CF,EP];exact⟨_,rfl,by simp only[Az];omega⟩
theorem aqy{l k:M}(h:k.Sublist l){s:T}(hs:FI l=some s)(hl:s.length+4≤65535):∃ d,BS k=some d∧d.length≤s.length+4:=by
 unfold FI at hs;split at hs
 ·rename_i hn
  cases h1:BB (flat l) with
  |none=>rw[h1] at hs;cases hs
  |some a=>
   rw[h1] at hs;simp only[EP,Ci] at hs;subst hs;obtain⟨b,hb,Ct⟩:=ang h h1;have DX:=h.length_le;rw[Az,A9.BV] at hl;unfold BS FI;rw[Ac (by omega),hb];simp only[EP,CF];rw[Ac (by rw[Az,A9.BV];omega)];exact⟨_,rfl,by rw[A9.RU,Az,Az,A9.BV,A9.BV];omega⟩
 ·cases hs
def There(K:Kind)(A:M)(ks:List T):Prop:=∀ k∈ks,(CK K A k).isSome=true
theorem agd{ks:List T}(h:There K A ks){name:T}(hn:name∈Bc (ks.map K.nm)):∃ d l,get A name=some d∧K.Cw name d=some l∧fileOf K A name=some l:=by
 rw[Eg] at hn;obtain⟨k,hk,rfl⟩:=BA.1 hn;have h1:=h k hk;unfold CK at h1;cases hf:fileOf K A (K.nm k) with
 |none=>rw[hf] at h1;simp at h1
 |some l=>
  have Xq:=hf;unfold fileOf at hf;cases hg:get A (K.nm k) with
  |none=>rw[hg] at hf;cases hf
  |some d=>
   rw[hg] at hf;exact⟨d,l,rfl,hf,rfl⟩
theorem bC(hg:Af.Good A){ks:List T}(h:There K A ks){name:T}(hn:name∈Bc (ks.map K.nm)):
  ∃ d l,get A name=some d∧K.Cw name d=some l∧fileOf K A name=some l∧(Uc K A ks name).data.length≤d.length∧
   ((l.filter (fun p=>decide (p.1∉ks))=[]∧Uc K A ks name=⟨name,[],true⟩)∨
    ∃ s,l.filter (fun p=>decide (p.1∉ks))≠[]∧BS (l.filter fun p=>decide (p.1∉ks))=some s∧Uc K A ks name=⟨name,s,false⟩∧s.length≤65535):=by
 obtain⟨d,l,h1,h2,h3⟩:=agd h hn;obtain⟨_,hu,Jo,s,hs,hd⟩:=Nf h2;have Ot:d.length≤65535:=by
  have:=hg _ (get_some h1);unfold Fq at this;simp at this;exact this.2.2
 have CZ:s.length+4=d.length:=by rw[hd,A9.RU]
 obtain⟨c,hc,BJ⟩:=aqy (List.filter_sublist (p:=fun p:T×T=>decide (p.1∉ks)) (l:=l)) hs (by omega);refine⟨d,l,h1,h2,h3,?_,?_⟩
 ·unfold Uc J6;rw[h3];simp only[Option.getD_some];split
  ·exact AZ _
  ·rw[hc];simp only[Option.getD_some];omega
 ·unfold Uc J6;rw[h3];simp only[Option.getD_some];split
  ·rename_i e
   exact .inl ⟨e,rfl⟩
  ·rename_i e
   exact .inr ⟨c,e,hc,by rw[hc];rfl,by omega⟩
theorem aAR{F:M}(hu:Up F)(c:Am){d:T}(hg:get F c.name=some d)(hl:c.data.length≤d.length):used (Am.on F c)≤used F:=by
 have hm:=get_some hg;have qH:(del c.name F |>.map cost).sum+cost (c.name,d)=(F.map cost).sum:=by
  have e:(put c.name d F)=F:=ah (hu.put _ _) hu fun p=>by
   rw[TC hu];constructor
   ·rintro(rfl|⟨h,_⟩)
    ·exact hm
    ·exact h
   ·intro hp;by_cases e:p.1=c.name
    ·refine .inl ?_;have h1:=get_mem hu (show(p.1,p.2)∈F from hp);rw[e,hg] at h1;injection h1 with h1
     rw[←e,h1]
    ·exact .inr ⟨hp,e⟩
  have:=((ZT (v:=d) hu c.name).map cost).sum_nat;rw[e,Ce,Eo] at this;omega
 unfold Am.on used;split
 ·omega
 ·have hp:=((ZT (v:=c.data) hu c.name).map cost).sum_nat;rw[hp,Ce,Eo];unfold cost at qH ⊢;simp only at qH ⊢;omega
theorem adf:∀ {l:List Am} {F:M},Up F→(l.map (·.name)).Nodup→(∀ c∈l,∃ d,get F c.name=some d∧c.data.length≤d.length)→used (made F l)≤used F
 |[],F,_,_,_=>Ae _
 |c :: l,F,hu,hn,h=>by
  obtain⟨n1,n2⟩:=Ju.1 hn;obtain⟨d,h1,h2⟩:=h c (by simp);refine Ay (adf (F:=Am.on F c) (hu.on c) n2 fun x hx=>?_) (aAR hu c h1 h2);obtain⟨e,h3,h4⟩:=h x (GI _ hx);have hne:x.name≠c.name:=fun e=>n1 (show c.name∈l.map (·.name) from by rw[←e];exact Hl hx)
  refine⟨e,?_,h4⟩;unfold Am.on;split
  ·rw[iX hu,Aa hne,h3]
  ·rw[get_put hu,Aa hne,h3]
theorem Vx(ks:List T):(Ff K A ks).map (·.name)=Bc (ks.map K.nm):=by
 unfold Ff;rw[Ko]
 conv=>rhs;rw[←List.map_id (Bc (ks.map K.nm))]
 exact Q3 fun x _=>iO ks x
theorem Wm(l:List T):(Bc l).Nodup:=by
 rw[List.nodup_iff_pairwise_ne];exact(JQ l).imp fun h=>KV h
theorem afV(hK:K.BX){n:Nat}(hu:Up A)(hg:Af.Good A)(hr:used A≤Cn n){ks:List T}(h:There K A ks):Fy n A (Ff K A ks)=0∧Es n A (Ff K A ks)=made A (Ff K A ks)∧used (made A (Ff K A ks))≤used A∧(∀ c∈Ff K A ks,c.may=true):=by
 have Mf:∀ c∈Ff K A ks,c.may=true:=by
  intro c hc;unfold Ff at hc;obtain⟨name,hn,rfl⟩:=BA.1 hc;obtain⟨d,l,h1,h2,h3,h4,h5⟩:=bC hg h hn;have hl:name.length=17:=by
   rw[Eg] at hn;obtain⟨k,_,rfl⟩:=BA.1 hn;exact hK.len k
  have hne:name≠[]:=fun e=>by rw[e] at hl;cases hl
  rcases h5 with⟨_,e⟩|⟨s,_,_,e,CZ⟩
  ·rw[e];unfold Am.may Fq;simp[hne,hl]
  ·rw[e];unfold Am.may Fq;simp[hne,hl,CZ]
 have FE:used (made A (Ff K A ks))≤used A:=adf hu (by rw[Vx];exact Wm _) fun c hc=>by
  unfold Ff at hc;obtain⟨name,hn,rfl⟩:=BA.1 hc;obtain⟨d,l,h1,h2,h3,h4,h5⟩:=bC hg h hn;exact⟨d,by rw[iO];exact h1,h4⟩
 have hall:(Ff K A ks).all Am.may=true:=by rw[Mr];exact Mf
 refine⟨?_,?_,FE,Mf⟩
 ·unfold Fy;rw[hall,Aa (by simp),Aa (by omega)]
 ·unfold Es;rw[Ac ⟨hall,by omega⟩]
theorem arP{l:List Am}(hn:(l.map (·.name)).Nodup){c:Am}(hc:c∈l):l.reverse.find? (fun x=>x.name == c.name)=some c:=by
 have hr:(l.reverse.map (·.name)).Nodup:=by rw[List.map_reverse];exact(List.reverse_perm _).nodup_iff.2 hn
 have Oq:c∈l.reverse:=List.mem_reverse.2 hc;generalize l.reverse=r at*
 induction r with
 |nil=>simp at Oq
 |cons x r ih=>
  obtain⟨n1,n2⟩:=Ju.1 hr;rcases BZ.1 Oq with e|e
  ·subst e;simp
  ·have:x.name≠c.name:=fun e'=>n1 (show x.name∈r.map (·.name) from by rw[e'];exact Hl e)
   rw[List.find?_cons_of_neg (by simpa using this)];exact ih n2 e
theorem zI{F:M}(hu:Up F){l:List Am}(hn:(l.map (·.name)).Nodup){c:Am}(hc:c∈l):get (made F l) c.name=if c.gone then none else some c.data:=by
 rw[agT hu,arP hn hc]
theorem iY{F:M}(hu:Up F){l:List Am}{k:T}(h:k∉l.map (·.name)):get (made F l) k=get F k:=by
 have:l.reverse.find? (fun c=>c.name == k)=none:=by
  rw[List.find?_eq_none];intro x hx;have:x.name≠k:=fun e=>h (by rw[←e];exact Hl (List.mem_reverse.1 hx))
  simpa using this
 rw[agT hu,this]
theorem get_filter{l:M}(hu:Up l)(p:T×T→Bool)(k:T):get (l.filter p) k=(get l k).bind fun v=>if p (k,v) then some v else none:=by
 cases hg:get l k with
 |none=>
  rw[get_none] at hg;exact get_none.2 fun x hx=>hg x ((FQ.1 hx).1)
 |some v=>
  have hm:=get_some hg;simp only[CF];split
  ·rename_i hp
   exact get_mem (hu.filter _) (FQ.2 ⟨hm,hp⟩)
  ·rename_i hp
   refine get_none.2 fun x hx e=>?_
   obtain⟨h1,h2⟩:=FQ.1 hx;have:=get_mem hu (show(x.1,x.2)∈l from h1);rw[e,hg] at this;injection this with this
   rw[this,←e] at hp;exact hp h2
theorem agb{l:List Am}(hu:Up A){name:T}(h:name∉l.map (·.name)):fileOf K (made A l) name=fileOf K A name:=by
 unfold fileOf;rw[iY hu h]
theorem ar6(hu:Up A)(hg:Af.Good A){ks:List T}(h:There K A ks)(k:T):CK K (made A (Ff K A ks)) k=if k∈ks then none else CK K A k:=by
 have dG:((Ff K A ks).map (·.name)).Nodup:=by rw[Vx];exact Wm _
 by_cases hn:K.nm k∈Bc (ks.map K.nm)
 ·obtain⟨d,l,h1,h2,h3,h4,h5⟩:=bC hg h hn;obtain⟨_,Hz,Jo,_⟩:=Nf h2;have NR:Uc K A ks (K.nm k)∈Ff K A ks:=Hl hn;have Jl:=zI hu dG NR;rw[iO] at Jl;have hv:CK K A k=get l k:=by unfold CK;rw[h3];rfl
  rw[hv];have aic:get (l.filter fun p=>decide (p.1∉ks)) k=if k∈ks then none else get l k:=by
   rw[get_filter Hz];cases get l k with
   |none=>simp
   |some v=>by_cases e:k∈ks<;>simp[e]
  rw[←aic];rcases h5 with⟨e1,e2⟩|⟨s,e0,e1,e2,_⟩
  ·rw[e2] at Jl;unfold CK fileOf;rw[Jl,e1];rfl
  ·rw[e2] at Jl;simp only[Bool.false_eq_true,if_false] at Jl;unfold CK fileOf;rw[Jl];simp only[CF];rw[show K.Cw (K.nm k) s=some (l.filter fun p=>decide (p.1∉ks)) from acs e1 e0 (Hz.filter _) fun p hp=>Jo p ((FQ.1 hp).1)];rfl
 ·have hk:k∉ks:=fun e=>hn ((Eg _ _).2 (Hl e))
  rw[Aa hk];unfold CK;rw[agb hu (by rw[Vx];exact hn)]
theorem ar5{K':Kind}(hK:K.BX)(jc:K'.BX)(hd:∀ x,K.ours x=true→K'.ours x=true→False)(hu:Up A)(ks:List T)(k:T):CK K' (made A (Ff K A ks)) k=CK K' A k:=by
 unfold CK;rw[agb hu];rw[Vx,Eg];intro hm;obtain⟨j,_,e⟩:=BA.1 hm;exact hd _ (hK.Nb j) (by rw[e];exact jc.Nb k)
end
end Kp
namespace BM
open Go.Lib Af Ap Aq Bu Kp
structure Jz where
 m:Kind
 d:Kind
structure Jz.BX(P:Jz):Prop where
 m:P.m.BX
 d:P.d.BX
 apart:∀ x,P.m.ours x=true→P.d.ours x=true→False
structure May(n:Nat)(A:M):Prop where
 up:Up A
 good:Af.Good A
 room:used A≤Cn n
section
variable {P:Jz}{n:Nat}{A:M}{roots:List T}
def mV(P:Jz)(A:M)(k:T):Option T:=CK P.m A k
def dV(P:Jz)(A:M)(r:T):Option T:=CK P.d A r
def akx(P:Jz)(A:M):List T:=Cm P.m A
def X0(P:Jz)(A:M):List T:=Cm P.d A
def Kl(P:Jz)(A:M)(r:T):List T:=((dV P A r).bind Dl).getD []
def Used(P:Jz)(A:M)(k:T):Prop:=∃ r∈X0 P A,k∈Kl P A r
instance (P:Jz) (A:M) (k:T):Decidable (Used P A k):=inferInstanceAs (Decidable (∃ r∈X0 P A,_))
def QP(P:Jz)(A:M):List T:=(akx P A).filter fun k=>decide (¬ Used P A k)
theorem awL{K:Kind}(hK:K.BX)(h:May n A){ks:List T}(ht:There K A ks):May n (made A (Ff K A ks)):=by
 obtain⟨_,_,h3,h4⟩:=afV hK h.up h.good h.room ht;exact⟨h.up.made _,h.good.made h.up h4,Ay h3 h.room⟩
theorem akJ(hP:P.BX)(h:May n A)(r:T):r∈X0 P A↔(dV P A r).isSome=true:=TB hP.d h.up r
theorem anx{A':M}{r:T}(h:dV P A' r=dV P A r):Kl P A' r=Kl P A r:=by unfold Kl;rw[h]
end
end BM
namespace ER
open Go.Lib Af Ap Aq Bu Kp BM
section
variable {K:Kind}{P:Jz}{n:Nat}{A:M}
def CO(K:Kind)(A:M):List T:=(A.filter fun p=>K.ours p.1 && (K.Cw p.1 p.2).isNone).map (·.1)
theorem J7(hu:Up A)(name:T):name∈CO K A↔K.ours name=true∧∃ d,get A name=some d∧K.Cw name d=none:=by
 unfold CO;rw[BA];constructor
 ·rintro⟨p,hp,rfl⟩;obtain⟨h1,h2⟩:=FQ.1 hp;simp only[Bool.and_eq_true,Option.isNone_iff_eq_none] at h2;exact⟨h2.1,p.2,get_mem hu (show(p.1,p.2)∈A from h1),h2.2⟩
 ·rintro⟨h1,d,h2,h3⟩;exact⟨(name,d),FQ.2 ⟨get_some h2,by simp[h1,h3]⟩,rfl⟩
def Nj(P:Jz)(A:M):List (T×T):=(X0 P A).flatMap fun r=>((Kl P A r).filter fun k=>(mV P A k).isNone).map fun k=>(r,k)
theorem sQ(r k:T):(r,k)∈Nj P A↔r∈X0 P A∧k∈Kl P A r∧mV P A k=none:=by
 unfold Nj;rw[Nl];constructor
 ·rintro⟨x,hx,hm⟩;obtain⟨y,hy,e⟩:=BA.1 hm;obtain⟨h1,h2⟩:=FQ.1 hy;obtain⟨rfl,rfl⟩:=Prod.mk.inj e;exact⟨hx,h1,by simpa using h2⟩
 ·rintro⟨h1,h2,h3⟩;exact⟨r,h1,BA.2 ⟨k,FQ.2 ⟨h2,by simp[h3]⟩,rfl⟩⟩
def Ui(P:Jz)(A:M):List T:=CO P.m A++CO P.d A
def GQ(P:Jz)(A:M):List Am:=(Ui P A).map fun x=>⟨x,[],true⟩
def Ki(P:Jz)(A:M):M:=made A (GQ P A)
def LD(P:Jz)(A:M):List T:=Bc ((Nj P A).map (·.1))
def OM(P:Jz)(A:M):M:=made (Ki P A) (Ff P.d (Ki P A) (LD P A))
theorem uE{α:Type}{p:List α→Prop}(h0:p [])(h1:∀ l x,p l→p (l++[x]))(l:List α):p l:=by
 have key:∀ k:List α,p k.reverse:=fun k=>by
  induction k with
  |nil=>exact h0
  |cons x k ih=>rw[List.reverse_cons];exact h1 _ _ ih
 have:=key l.reverse;rwa[List.reverse_reverse] at this
theorem asQ(hu:Up A)(l:List T)(x:T):get (made A (l.map fun x=>(⟨x,[],true⟩:Am))) x=if x∈l then none else get A x:=by
 induction l using uE with
 |h0=>rfl
 |h1 l y ih=>
  rw[D6,List.map_singleton,sK]
  show get (del y _) x=_
  rw[iX (Up.made hu _),ih];by_cases e:x=y
  ·rw[Ac e,Ac (by simp[e])]
  ·rw[Aa e];by_cases h:x∈l
   ·rw[Ac h,Ac (by simp[h])]
   ·rw[Aa h,Aa (by simp[h,e])]
theorem zJ(hu:Up A)(x:T):get (Ki P A) x=if x∈Ui P A then none else get A x:=asQ hu _ x
theorem sS(hu:Up A):Up (Ki P A):=Up.made hu _
theorem arI(hP:P.BX)(hu:Up A){K:Kind}(hK:K=P.m∨K=P.d){x:T}(hx:K.ours x=true):fileOf K (Ki P A) x=fileOf K A x:=by
 unfold fileOf;rw[zJ hu];split
 ·rename_i h
  rcases EG.1 h with h|h
  ·obtain⟨h1,d,h2,h3⟩:=(J7 hu x).1 h;rcases hK with rfl|rfl
   ·rw[h2];exact h3.symm
   ·exact absurd hx (by intro e;exact hP.apart x h1 e)
  ·obtain⟨h1,d,h2,h3⟩:=(J7 hu x).1 h;rcases hK with rfl|rfl
   ·exact absurd h1 (by intro e;exact hP.apart x hx e)
   ·rw[h2];exact h3.symm
 ·rfl
theorem adi(hP:P.BX)(hu:Up A){K:Kind}(hK:K=P.m∨K=P.d)(k:T):CK K (Ki P A) k=CK K A k:=by
 have hf:K.BX:=by rcases hK with rfl|rfl;exact hP.m;exact hP.d
 unfold CK;rw[arI hP hu hK (hf.Nb k)]
theorem apR(hu:Up A){K:Kind}(hK:K=P.m∨K=P.d):CO K (Ki P A)=[]:=by
 refine UW.2 fun x hx=>?_
 obtain⟨h1,d,h2,h3⟩:=(J7 (sS hu) x).1 hx;rw[zJ hu] at h2;split at h2
 ·cases h2
 ·rename_i h
  refine h (EG.2 ?_);rcases hK with rfl|rfl
  ·exact .inl ((J7 hu x).2 ⟨h1,d,h2,h3⟩)
  ·exact .inr ((J7 hu x).2 ⟨h1,d,h2,h3⟩)
theorem uA(hP:P.BX)(hu:Up A):There P.d (Ki P A) (LD P A):=fun r hr=>by
 unfold LD at hr;rw[Eg] at hr;obtain⟨p,hp,rfl⟩:=BA.1 hr;obtain⟨h1,_⟩:=(sQ p.1 p.2).1 hp;rw[adi hP hu (.inr rfl)];exact(TB hP.d hu p.1).1 h1
theorem apQ(hu:Up A)(hg:Af.Good A){ks:List T}(ht:There K A ks)(name:T):name∈CO K (made A (Ff K A ks))↔name∈CO K A:=by
 have Eu:Up (made A (Ff K A ks)):=Up.made hu _;have dG:((Ff K A ks).map (·.name)).Nodup:=by rw[Vx];exact Wm _
 by_cases hn:name∈Bc (ks.map K.nm)
 ·obtain⟨d,l,h1,h2,h3,h4,h5⟩:=bC hg ht hn;obtain⟨_,Hz,Jo,_⟩:=Nf h2;have hb:name∉CO K A:=fun h=>by
   obtain⟨_,d',e1,e2⟩:=(J7 hu name).1 h;rw[h1] at e1;cases e1;rw[h2] at e2;cases e2
  have NR:Uc K A ks name∈Ff K A ks:=Hl hn;have Jl:=zI hu dG NR;rw[iO] at Jl;refine⟨fun h=>?_,fun h=>absurd h hb⟩;obtain⟨_,d',e1,e2⟩:=(J7 Eu name).1 h;rcases h5 with⟨x1,x2⟩|⟨s,x0,x1,x2,_⟩
  ·rw[x2] at Jl;rw[Jl] at e1;cases e1
  ·rw[x2] at Jl;simp only[Bool.false_eq_true,if_false] at Jl;rw[Jl] at e1;have e3:d'=s:=by injection e1 with e1;exact e1.symm
   rw[e3] at e2;rw[show K.Cw name s=some (l.filter fun p=>decide (p.1∉ks)) from acs x1 x0 (Hz.filter _) fun p hp=>Jo p ((FQ.1 hp).1)] at e2;cases e2
 ·have El:get (made A (Ff K A ks)) name=get A name:=iY hu (by rw[Vx];exact hn);rw[J7 Eu,J7 hu,El]
theorem apS{K':Kind}(hK:K.BX)(hd:∀ x,K.ours x=true→K'.ours x=true→False)(hu:Up A)(ks:List T)(name:T):name∈CO K' (made A (Ff K A ks))↔name∈CO K' A:=by
 rw[J7 (Up.made hu _),J7 hu];by_cases ho:K'.ours name=true
 ·rw[iY hu];rw[Vx,Eg];intro hm;obtain⟨j,_,e⟩:=BA.1 hm;exact hd _ (hK.Nb j) (by rw[e];exact ho)
 ·simp[ho]
theorem yh(hu:Up A):(CO K A).Nodup:=by
 unfold CO;have h:List.Pairwise (fun a b:T×T=>a.1 < b.1) (A.filter fun p=>K.ours p.1 && (K.Cw p.1 p.2).isNone):=(show List.Pairwise (fun a b:T×T=>a.1 < b.1) A from hu).filter _;exact List.nodup_iff_pairwise_ne.2 (List.pairwise_map.2 (h.imp fun {a b} hab e=>KV hab e))
theorem agV(hP:P.BX)(hu:Up A):(Ui P A).Nodup:=by
 unfold Ui;refine List.nodup_append.2 ⟨yh hu,yh hu,fun x hx y hy e=>?_⟩;subst e;exact hP.apart x ((J7 hu x).1 hx).1 ((J7 hu x).1 hy).1
theorem zK(hu:Up A){x:T}(hx:x∈Ui P A):∃ d,get A x=some d:=by
 rcases EG.1 hx with h|h
 ·obtain⟨_,d,h2,_⟩:=(J7 hu x).1 h;exact⟨d,h2⟩
 ·obtain⟨_,d,h2,_⟩:=(J7 hu x).1 h;exact⟨d,h2⟩
theorem zM(hP:P.BX)(h:BM.May n A):Fy n A (GQ P A)=0∧Es n A (GQ P A)=Ki P A∧used (Ki P A)≤used A∧∀ c∈GQ P A,c.may=true:=by
 have Mf:∀ c∈GQ P A,c.may=true:=fun c hc=>by
  unfold GQ at hc;obtain⟨x,hx,rfl⟩:=BA.1 hc;obtain⟨d,hd⟩:=zK h.up hx;have hg:=h.good _ (get_some hd);unfold Fq at hg;unfold Am.may Fq;simp only[decide_eq_true_eq] at hg;simp[hg.1,hg.2.1]
 have hn:(GQ P A).map (·.name)=Ui P A:=by
  unfold GQ;rw[Ko];exact List.map_id _
 have FE:used (Ki P A)≤used A:=adf h.up (by rw[hn];exact agV hP h.up) fun c hc=>by
  unfold GQ at hc;obtain⟨x,hx,rfl⟩:=BA.1 hc;obtain⟨d,hd⟩:=zK h.up hx;exact⟨d,hd,AZ _⟩
 have hall:(GQ P A).all Am.may=true:=by rw[Mr];exact Mf
 have hr:=h.room;refine⟨?_,?_,FE,Mf⟩
 ·unfold Fy;rw[hall,Aa (by simp),Aa (by unfold Ki at FE;omega)]
 ·unfold Es;rw[Ac ⟨hall,by unfold Ki at FE;omega⟩];rfl
theorem abV(hP:P.BX)(h:BM.May n A):BM.May n (Ki P A):=by
 obtain⟨_,_,h3,h4⟩:=zM hP h;exact⟨sS h.up,h.good.made h.up h4,Ay h3 h.room⟩
theorem akN(hP:P.BX)(h:BM.May n A):BM.May n (OM P A):=awL hP.d (abV hP h) (uA hP h.up)
theorem akM(hP:P.BX)(h:BM.May n A)(k:T):mV P (OM P A) k=mV P A k:=by
 have h1:=ar5 (K:=P.d) (K':=P.m) hP.d hP.m (fun x h1 h2=>hP.apart x h2 h1) (sS h.up) (LD P A) k (A:=Ki P A);exact h1.trans (adi hP h.up (.inl rfl) k)
theorem akL(hP:P.BX)(h:BM.May n A)(r:T):dV P (OM P A) r=if r∈LD P A then none else dV P A r:=by
 have hm:=abV hP h;have h1:=ar6 hm.up hm.good (uA hP h.up) r;have h2:=adi hP h.up (K:=P.d) (.inr rfl) r;rw[h2] at h1;exact h1
theorem o8(hP:P.BX)(h:BM.May n A){K:Kind}(hK:K=P.m∨K=P.d):CO K (OM P A)=[]:=by
 have hm:=abV hP h;refine UW.2 fun x hx=>?_
 have Ea:x∈CO K (Ki P A):=by
  rcases hK with rfl|rfl
  ·exact(apS hP.d (fun x h1 h2=>hP.apart x h2 h1) hm.up (LD P A) x).1 hx
  ·exact(apQ hm.up hm.good (uA hP h.up) x).1 hx
 rw[apR h.up hK] at Ea;cases Ea
theorem aBh(hP:P.BX)(h:BM.May n A):Nj P (OM P A)=[]:=by
 have Kb:=akN hP h;refine UW.2 fun p hp=>?_
 obtain⟨h1,h2,h3⟩:=(sQ p.1 p.2).1 hp;have hd:=akL hP h p.1;have YV:=(akJ hP Kb p.1).1 h1;rw[hd] at YV;split at YV
 ·cases YV
 ·rename_i hn
  refine hn ?_;unfold LD;rw[Eg];refine BA.2 ⟨p,(sQ p.1 p.2).2 ⟨(akJ hP h p.1).2 YV,?_,by rw[←akM hP h];exact h3⟩,rfl⟩;rw[←anx (A':=OM P A) (by rw[hd,Aa hn])];exact h2
def Vr(P:Jz)(A:M):Prop:=CO P.m A=[]∧CO P.d A=[]∧Nj P A=[]
theorem awS(hP:P.BX)(h:BM.May n A):Vr P (OM P A):=⟨o8 hP h (.inl rfl),o8 hP h (.inr rfl),aBh hP h⟩
def MM(P:Jz)(A:M):List (Nat×T×T):=
 ((CO P.m A).map fun x=>(1,x,[]))++((CO P.d A).map fun x=>(2,x,[]))++((Nj P A).map fun p=>(3,p.1,p.2))++((QP P A).map fun k=>(4,[],k))
theorem azQ:Vr P A↔∀ b∈MM P A,b.1=4:=by
 unfold Vr MM;constructor
 ·rintro⟨h1,h2,h3⟩ b hb;rw[h1,h2,h3] at hb;simp only[Kq,Ev,BA] at hb;obtain⟨k,_,rfl⟩:=hb;rfl
 ·intro h;refine⟨UW.2 fun x hx=>?_,UW.2 fun x hx=>?_,UW.2 fun x hx=>?_⟩
  ·have:=h (1,x,[]) (by simp;exact hx);cases this
  ·have:=h (2,x,[]) (by simp;exact hx);cases this
  ·have:=h (3,x.1,x.2) (by simp;exact hx);cases this
end
end ER
namespace Hex
open Go.Lib Af Ap Aq Bu Kp BM
def FV(k:Nat):UInt8:=UInt8.ofNat (if k < 10 then 48+k else 87+k)
def Er(s:T):T:=s.flatMap fun b=>[FV (b.toNat / 16),FV (b.toNat % 16)]
def val(c:UInt8):Option Nat:=if 48≤c.toNat∧c.toNat≤57 then some (c.toNat -48) else if 97≤c.toNat∧c.toNat≤102 then some (c.toNat -87) else none
def F3:T→Option T
 |[]=>some []
 |a :: b :: s=>match val a,val b with
  |some x,some y=>(F3 s).map (UInt8.ofNat (16*x+y) :: ·)
  |_,_=>none
 |_=>none
theorem afN{k:Nat}(h:k < 16):(FV k).toNat=if k < 10 then 48+k else 87+k:=by
 unfold FV;have:∀ n,n < 256→(UInt8.ofNat n).toNat=n:=fun n hn=>by rw[UInt8.toNat_ofNat'];exact Nat.mod_eq_of_lt hn
 split
 ·exact this _ (by omega)
 ·exact this _ (by omega)
theorem anG{k:Nat}(h:k < 16):val (FV k)=some k:=by
 unfold val;rw[afN h];by_cases e:k < 10
 ·rw[Ac e,Ac ⟨by omega,by omega⟩];congr 1;omega
 ·rw[Aa e,Aa (by omega),Ac ⟨by omega,by omega⟩];congr 1;omega
theorem qK(b:UInt8)(s:T):Er (b :: s)=FV (b.toNat / 16) :: FV (b.toNat % 16) :: Er s:=rfl
theorem ai7(a b:T):Er (a++b)=Er a++Er b:=by unfold Er;rw[Nk]
theorem Rx(s:T):(Er s).length=2*s.length:=by
 induction s with
 |nil=>rfl
 |cons b s ih=>rw[qK,BN,BN,ih,BN];omega
theorem ad7:∀ s:T,F3 (Er s)=some s
 |[]=>rfl
 |b :: s=>by
  have hb:=b.toNat_lt;rw[qK,F3,anG (by omega),anG (by omega)];simp only;rw[ad7 s,EP]
  congr 2
  have:16*(b.toNat / 16)+b.toNat % 16=b.toNat:=by omega
  rw[this];exact UInt8.ofNat_toNat
def Na(c:UInt8)(name:T):Bool:=name.length == 17 && (name.head? == some c) && (F3 (name.drop 1)).isSome
def kX(c:UInt8)(k:T):T:=c :: Er ((BD.EO k).take 8)
theorem ac1(c:UInt8)(k:T):(kX c k).length=17:=by
 unfold kX;rw[BN,Rx,Be,BD.TG];rfl
theorem al7(c:UInt8)(k:T):Na c (kX c k)=true:=by
 unfold Na;rw[ac1]
 show(true && (some c == some c) && (F3 (Er ((BD.EO k).take 8))).isSome)=true
 rw[ad7];simp
def rowOk(p:T×T):Bool:=match Dl p.2 with
 |none=>false
 |some l=>decide (Bc l=l)
def Aj:Kind:=⟨kX 109,Na 109,fun _=>true⟩
def Ab:Kind:=⟨kX 117,Na 117,rowOk⟩
def both:BM.Jz:=⟨Aj,Ab⟩
theorem KW:Aj.BX:=⟨al7 109,ac1 109⟩
theorem Gf:Ab.BX:=⟨al7 117,ac1 117⟩
theorem NA:both.BX:=⟨KW,Gf,fun x h1 h2=>by
 have a:Na 109 x=true:=h1;have b:Na 117 x=true:=h2;unfold Na at a b;simp only[Bool.and_eq_true,beq_iff_eq] at a b;have:=a.1.2.symm.trans b.1.2;simp at this⟩
end Hex
namespace ER
open Go.Lib Af Ap Aq Bu Kp BM Hex
abbrev Br:=Nat×T×T
theorem afO{c:UInt8}{x:Nat}(h:val c=some x):x < 16∧FV x=c:=by
 unfold val at h;have hc:=c.toNat_lt;split at h
 ·injection h with h
  subst h;refine⟨by omega,?_⟩;unfold FV;rw[Ac (by omega)];apply UInt8.toNat_inj.1;rw[UInt8.toNat_ofNat',Nat.mod_eq_of_lt (by omega)];omega
 ·split at h
  ·injection h with h
   subst h;refine⟨by omega,?_⟩;unfold FV;rw[Aa (by omega)];apply UInt8.toNat_inj.1;rw[UInt8.toNat_ofNat',Nat.mod_eq_of_lt (by omega)];omega
  ·cases h
theorem aat:∀ (s t:T),F3 s=some t→Er t=s
 |[],t,h=>by
  simp only[F3,Ci] at h;subst h;rfl
 |[a],t,h=>by simp[F3] at h
 |a :: b :: s,t,h=>by
  rw[F3] at h;cases ha:val a with
  |none=>rw[ha] at h;simp at h
  |some x=>
   cases hb:val b with
   |none=>rw[ha,hb] at h;simp at h
   |some y=>
    rw[ha,hb] at h;simp only[Sc] at h;obtain⟨u,hu,rfl⟩:=h;obtain⟨hx,ex⟩:=afO ha;obtain⟨hy,ey⟩:=afO hb;have e:(UInt8.ofNat (16*x+y)).toNat=16*x+y:=(by rw[UInt8.toNat_ofNat'];exact Nat.mod_eq_of_lt (by omega));rw[qK,e,aat s u hu,show(16*x+y) / 16=x by omega,show(16*x+y) % 16=y by omega,ex,ey]
def E9(s:T):T:=if s=[] then[45] else Er s
def JS(s:T):Option T:=if s=[45] then some [] else if s=[] then none else F3 s
def word:Nat→T
 |1=>[109,101,109,111]
 |2=>[117,115,101]
 |3=>[119,97,110,116]
 |4=>[108,111,111,115,101]
 |_=>[63]
def Gs(b:Br):T:=word b.1++[32]++E9 b.2.1++[32]++E9 b.2.2
def NB(st:List T×T)(c:UInt8):List T×T:=if c=32 then(st.1++[st.2],[]) else(st.1,st.2++[c])
def Hr(s:T):List T×T:=s.foldl NB ([],[])
def parts(s:T):List T:=(Hr s).1++[(Hr s).2]
theorem o9(s:T)(c:UInt8):Hr (s++[c])=NB (Hr s) c:=by unfold Hr;rw[List.foldl_append];rfl
def kindOf(a:T):Option Nat:=if a=word 1 then some 1 else if a=word 2 then some 2 else if a=word 3 then some 3 else if a=word 4 then some 4 else none
def ad1(k:Option Nat)(x y:Option T):Option Br:=match k,x,y with
 |some k,some x,some y=>some (k,x,y)
 |_,_,_=>none
def DF(s:T):Option Br:=match parts s with
 |[a,b,c]=>ad1 (kindOf a) (JS b) (JS c)
 |_=>none
theorem ayC{s a b c x y:T}{k:Nat}(h:parts s=[a,b,c])(h1:kindOf a=some k)(h2:JS b=some x)(h3:JS c=some y):DF s=some (k,x,y):=by
 unfold DF;rw[h]
 show ad1 _ _ _=_
 rw[h1,h2,h3];rfl
theorem ayx{s a b c:T}(h:parts s=[a,b,c])(h1:kindOf a=none∨JS b=none∨JS c=none):DF s=none:=by
 unfold DF;rw[h]
 show ad1 _ _ _=_
 rcases h1 with h1|h1|h1
 ·rw[h1];rfl
 ·rw[h1];cases kindOf a<;>rfl
 ·rw[h1];cases kindOf a<;>cases JS b<;>rfl
theorem as6(s:T):∀ st:List T×T,(s.foldl NB st).1=st.1++((s.foldl NB ([],st.2)).1)∧(s.foldl NB st).2=(s.foldl NB ([],st.2)).2:=by
 induction s with
 |nil=>intro st;simp
 |cons c s ih=>
  rintro⟨l,x⟩;simp only[List.foldl_cons];by_cases h:c=32
  ·have e1:NB (l,x) c=(l++[x],[]):=Ac h;have e2:NB ([],x) c=([x],[]):=Ac h;rw[e1,e2];obtain⟨a1,a2⟩:=ih (l++[x],[]);obtain⟨b1,b2⟩:=ih ([x],[]);exact⟨by rw[a1,b1,Dy],by rw[a2,b2]⟩
  ·have e1:NB (l,x) c=(l,x++[c]):=Aa h;have e2:NB ([],x) c=([],x++[c]):=Aa h;rw[e1,e2];exact ih (l,x++[c])
theorem agn(a:T)(ha:(32:UInt8)∉a):∀ (l:List T) (x:T),a.foldl NB (l,x)=(l,x++a):=by
 induction a with
 |nil=>intro l x;simp
 |cons c a ih=>
  intro l x;rw[List.foldl_cons,show NB (l,x) c=(l,x++[c]) from Aa (fun e=>ha (by simp[e])),ih (fun h=>ha (by simp[h]))];simp
theorem alf(a:T)(ha:(32:UInt8)∉a):parts a=[a]:=by
 unfold parts Hr;rw[agn a ha];simp
theorem acd(a b:T)(ha:(32:UInt8)∉a):parts (a++32 :: b)=a :: parts b:=by
 unfold parts Hr;rw[List.foldl_append,agn a ha,List.foldl_cons,show NB ([],[]++a) 32=([a],[]) from by simp[NB]];obtain⟨h1,h2⟩:=as6 b ([a],[]);rw[h1,h2];rfl
def NV:List T→T
 |[]=>[]
 |[a]=>a
 |a :: b :: l=>a++32 :: NV (b :: l)
theorem avT(l:List T)(x:T)(c:UInt8):NV (l++[x++[c]])=NV (l++[x])++[c]:=by
 induction l with
 |nil=>rfl
 |cons a l ih=>
  cases l with
  |nil=>simp[NV]
  |cons b l=>
   show a++32 :: NV ((b :: l)++[x++[c]])=(a++32 :: NV ((b :: l)++[x]))++[c]
   rw[ih];simp
theorem avS(l:List T)(x:T):NV (l++[x]++[[]])=NV (l++[x])++[32]:=by
 induction l with
 |nil=>simp[NV]
 |cons a l ih=>
  cases l with
  |nil=>simp[NV]
  |cons b l=>
   show a++32 :: NV ((b :: l)++[x]++[[]])=(a++32 :: NV ((b :: l)++[x]))++[32]
   rw[ih];simp
theorem ak2(s:T):NV (parts s)=s∧∀ a∈parts s,(32:UInt8)∉a:=by
 induction s using uE with
 |h0=>exact⟨rfl,by simp[parts,Hr]⟩
 |h1 s c ih=>
  obtain⟨h1,h2⟩:=ih;unfold parts at h1 h2 ⊢;rw[o9];unfold NB;by_cases hc:c=32
  ·subst hc;rw[Ac rfl];refine⟨by rw[avS,h1],fun a ha=>?_⟩;rcases EG.1 ha with h|h
   ·exact h2 a h
   ·rw[FC.1 h];simp
  ·rw[Aa hc];refine⟨by rw[avT,h1],fun a ha=>?_⟩;rcases EG.1 ha with h|h
   ·exact h2 a (List.mem_append_left _ h)
   ·rw[FC.1 h,EG];rintro(e|e)
    ·exact h2 _ (List.mem_append_right _ (by simp)) e
    ·exact hc (FC.1 e).symm
theorem ak1:∀ (l:List T),∀ a∈l,a.length≤(NV l).length
 |[],a,h=>by simp at h
 |[x],a,h=>by rw[FC.1 h];exact Ae _
 |x :: y :: l,a,h=>by
  show a.length≤(x++32 :: NV (y :: l)).length
  rw[Az,BN];rcases BZ.1 h with rfl|h
  ·omega
  ·have:=ak1 (y :: l) a h;omega
theorem ald{s a:T}(h:a∈parts s):a.length≤s.length:=by
 have:=ak1 _ a h;rwa[(ak2 s).1] at this
theorem aBl(k:Nat):(32:UInt8)∉word k:=by
 unfold word;split<;>decide
theorem afL{k:Nat}(hk:k < 16):FV k≠32:=fun e=>by
 have:=congrArg UInt8.toNat e;rw[afN hk] at this;have e2:(32:UInt8).toNat=32:=rfl;rw[e2] at this;split at this<;>omega
theorem aul(s:T):(32:UInt8)∉Er s:=by
 induction s with
 |nil=>simp[Er]
 |cons b s ih=>
  have hb:=b.toNat_lt;rw[qK];simp only[BZ,not_or];exact⟨fun e=>afL (by omega) e.symm,fun e=>afL (by omega) e.symm,ih⟩
theorem ai5(s:T):(32:UInt8)∉E9 s:=by
 unfold E9;split
 ·decide
 ·exact aul s
theorem auk{s:T}(h:Er s=[]):s=[]:=by
 have:=Rx s;rw[h] at this;refine JW.1 ?_;rw[Iu] at this;omega
theorem anq(s:T):JS (E9 s)=some s:=by
 unfold E9;by_cases h:s=[]
 ·rw[Ac h,h];rfl
 ·rw[Aa h];unfold JS;have h2:=Rx s;rw[Aa (fun e=>by rw[e] at h2;simp at h2;omega),Aa (fun e=>h (auk e)),ad7]
theorem ag(a x:T):JS a=some x↔E9 x=a:=by
 constructor
 ·intro h;unfold JS at h;split at h
  ·rename_i e
   injection h with h
   subst h;rw[e];rfl
  ·split at h
   ·cases h
   ·rename_i h1 h2
    have:=aat _ _ h;unfold E9;rw[Aa (fun e=>h2 (by rw[←this,e];rfl)),this]
 ·rintro rfl;exact anq x
theorem ale(b:Br):parts (Gs b)=[word b.1,E9 b.2.1,E9 b.2.2]:=by
 unfold Gs;rw[show word b.1++[32]++E9 b.2.1++[32]++E9 b.2.2=word b.1++32 :: (E9 b.2.1++32 :: E9 b.2.2) by simp,acd _ _ (aBl _),acd _ _ (ai5 _),alf _ (ai5 _)]
theorem aw4{k:Nat}:kindOf (word k)=if 1≤k∧k≤4 then some k else none:=by
 by_cases h:1≤k∧k≤4
 ·rw[Ac h];have:k=1∨k=2∨k=3∨k=4:=by omega
  rcases this with rfl|rfl|rfl|rfl<;>decide
 ·rw[Aa h];have:word k=[63]:=by
   unfold word;split<;>first|omega|rfl
  rw[this];decide
theorem aw3{a:T}{k:Nat}(h:kindOf a=some k):a=word k∧1≤k∧k≤4:=by
 unfold kindOf at h;split at h
 ·injection h with h;subst h;exact⟨by assumption,by decide,by decide⟩
 ·split at h
  ·injection h with h;subst h;exact⟨by assumption,by decide,by decide⟩
  ·split at h
   ·injection h with h;subst h;exact⟨by assumption,by decide,by decide⟩
   ·split at h
    ·injection h with h;subst h;exact⟨by assumption,by decide,by decide⟩
    ·cases h
theorem alZ(b:Br):DF (Gs b)=if 1≤b.1∧b.1≤4 then some b else none:=by
 unfold DF;rw[ale];simp only[anq,aw4];by_cases h:1≤b.1∧b.1≤4
 ·rw[Ac h,Ac h];rfl
 ·rw[Aa h,Aa h];rfl
theorem ui{s:T}{b:Br}(h:DF s=some b):(1≤b.1∧b.1≤4)∧Gs b=s:=by
 unfold DF at h;have hj:=(ak2 s).1;split at h
 ·rename_i a x y e
  cases h1:kindOf a with
  |none=>rw[h1] at h;cases h
  |some k=>
   cases h2:JS x with
   |none=>rw[h1,h2] at h;cases h
   |some u=>
    cases h3:JS y with
    |none=>rw[h1,h2,h3] at h;cases h
    |some v=>
     rw[h1,h2,h3] at h;have h:some (k,u,v)=some b:=h;injection h with h
     subst h;obtain⟨e1,e2⟩:=aw3 h1;refine⟨e2,?_⟩;unfold Gs;rw[←hj,e,(ag _ _).1 h2,(ag _ _).1 h3,←e1];simp[NV]
 ·cases h
theorem alX(s:T)(b:Br):DF s=some b↔(1≤b.1∧b.1≤4)∧Gs b=s:=by
 refine⟨ui,?_⟩;rintro⟨h,rfl⟩;rw[alZ,Ac h]
def D8(a:T):T:=if a=[45] then[] else(F3 a).getD []
theorem atb(a:T):E9 (D8 a)=a↔(JS a).isSome=true:=by
 constructor
 ·intro h;rw[(ag a _).2 h];rfl
 ·intro h;obtain⟨x,hx⟩:=LM.1 h;have e:=(ag a x).1 hx;have:D8 a=x:=by
   unfold D8;unfold JS at hx;split at hx
   ·rename_i h1
    rw[Ac h1];injection hx
   ·rename_i h1
    rw[Aa h1];split at hx
    ·cases hx
    ·rw[hx];rfl
  rw[this,e]
theorem pW{a x:T}(h:JS a=some x):D8 a=x:=by
 have h1:=(atb a).2 (by rw[h];rfl);have h2:=(ag a (D8 a)).2 h1;rw[h] at h2;injection h2 with h2
 exact h2.symm
def UO(s a b:T):List Nat→Option Br
 |[]=>none
 |k :: l=>if Gs (k,D8 a,D8 b)=s then some (k,D8 a,D8 b) else UO s a b l
theorem aAs{s x a b:T}(h:parts s=[x,a,b]):UO s a b [1,2,3,4]=DF s:=by
 have key:∀ l:List Nat,(∀ k∈l,1≤k∧k≤4)→UO s a b l=match DF s with|some c=>if c.1∈l then some c else none|none=>none:=by
  intro l
  induction l with
  |nil=>intro _;cases DF s<;>simp[UO]
  |cons k l ih=>
   intro hl;have hk:=hl k (by simp);have ih:=ih (fun k h=>hl k (by simp[h]));rw[UO];by_cases e:Gs (k,D8 a,D8 b)=s
   ·rw[Ac e,(alX s _).2 ⟨hk,e⟩];simp
   ·rw[Aa e,ih];cases hr:DF s with
    |none=>rfl
    |some c=>
     have hne:c.1≠k:=fun f=>by
      obtain⟨h1,h2⟩:=ui hr;have hp:=ale c;rw[h2,h] at hp;injection hp with p1 hp
      injection hp with p2 hp
      injection hp with p3 _
      refine e ?_;have g1:D8 a=c.2.1:=pW ((ag _ _).2 p2.symm);have g2:D8 b=c.2.2:=pW ((ag _ _).2 p3.symm);rw[g1,g2,←f];exact h2
     simp[hne]
 rw[key _ (by decide)];cases hr:DF s with
 |none=>rfl
 |some c=>
  have:=(ui hr).1;have:c.1∈[1,2,3,4]:=by simp;omega
  simp only;rw[Ac this]
theorem alU{s:T}(h:(parts s).length≠3):DF s=none:=by
 unfold DF;split
 ·rename_i e;rw[e] at h;exact absurd rfl h
 ·rfl
theorem avO(s:T)(h:(32:UInt8)∈s):∃ a b:T,s=a++32 :: b∧(32:UInt8)∉a:=by
 induction s with
 |nil=>simp at h
 |cons c s ih=>
  by_cases hc:c=32
  ·exact⟨[],s,by rw[hc];rfl,by simp⟩
  ·obtain⟨a,b,e,ha⟩:=ih ((BZ.1 h).resolve_left (fun e=>hc e.symm));exact⟨c :: a,b,by rw[e];rfl,by simp only[BZ,not_or];exact⟨fun e=>hc e.symm,ha⟩⟩
theorem avN(a b:T)(ha:(32:UInt8)∉a):Go.Lib.index (a++32 :: b) [32]=(a.length:Int):=by
 induction a with
 |nil=>simp[Go.Lib.index,List.isPrefixOf]
 |cons c a ih=>
  have hc:c≠32:=fun e=>ha (by simp[e])
  have ih:=ih (fun h=>ha (by simp[h]));have hp:([32]:List UInt8).isPrefixOf (c :: (a++32 :: b))=false:=by simp[List.isPrefixOf,Ne.symm hc]
  rw[Hf,Go.Lib.index,hp,ih];have:((a.length:Int) == -1)=false:=EH.2 (by omega);rw[this];simp
theorem amU:∀ (k:Nat) (s:T),s.count 32=k→Go.Lib.splitK [32] 0 k s=parts s
 |0,s,h=>by rw[alf s (fun hm=>by have:=List.count_pos_iff.2 hm;omega)];rfl
 |k+1,s,h=>by
  obtain⟨a,b,rfl,ha⟩:=avO s (List.count_pos_iff.1 (by omega));have hb:b.count 32=k:=by
   rw[List.count_append,List.count_cons_self,List.count_eq_zero.2 ha] at h;omega
  have hi:=avN a b ha;have:((a.length:Int) == -1)=false:=EH.2 (by omega);rw[Go.Lib.splitK,hi,this,acd a b ha];simp only[Bool.false_eq_true,if_false,Int.toNat_natCast,Nat.add_zero];rw[List.take_append_of_le_length (Ae _),Dq,show([32]:List UInt8).length=1 from rfl,show a.length+1=(a++[32]).length by simp,show a++32 :: b=(a++[32])++b by simp,List.drop_append_of_le_length (Ae _),List.drop_length,Ev,amU k b hb]
theorem azS(s:T):Go.Lib.split s [32]=parts s:=by
 unfold Go.Lib.split;rw[Go.Lib.count_one];exact amU _ s rfl
end ER
namespace Hex
open Go.RowKit Go.Maps
open Af Ap
theorem yz{w:World}{b:Nat}{l:List UInt8}{fp:Nat→Prop}(h:Ep w b l fp)(x:UInt8)(hlen:l.length+1≤1099511627776):
  Calls prog 127 #[.pointer (some ⟨b,0,none⟩),.int .u8 (x.toNat:Int)] w fun e w'=>e=.returned .nilIface∧∃ fp',Ep w' b (l++[x]) fp'∧A7 fp w w'∧Di fp fp' w:=by
 obtain⟨p,v,hb,hp,hown,hne,XG,rfl⟩:=h;have nk:=Hi XG;clear XG;obtain⟨i0,hi,AX,AY,Ba⟩:=DI YS
 go_in
 go_wp2_with fail;refine(yN b p v _ hb hp).mono ?_;rintro e w1⟨rfl,Ai,Gq⟩;have jB:b < w.heap.size:=(Dm.1 hb).1;have atX:b < w1.heap.size:=I9 jB Gq.size;have KT:w1.ownsRow 0 5 1 v l.length (Cc l):=BH hown Gq (fun q hq e=>hne (by rw[hq,e]));have c1:w1.cell? ⟨b,1,none⟩=some v:=by rw[Lib.cell_of_heap Ai];rfl
 have CW:=Hi KT;have HB1:=Hi Ai;have ha:=AV w1 (.cells #[.int .u8 (x.toNat:Int)] 5);have Au:=Hi ha;have FW:=E8 w1 #[.int .u8 (x.toNat:Int)] 5 0;have Wy:=Hi FW;clear KT ha FW
 go_wp2_with (at_builtin;refine wpList_append_own_at _ rfl _ _ 54 rfl 0 5 i0 (.int .u8 0) 1 1 underlying54 hi AX AY Ba rfl (by decide) _ _ _ rfl (CW.alloc _) ⟨w1.heap.size,0,none⟩ 1 1 (Cc [x]) rfl (by rw[Ni];rfl) (by
   intro j u hj;rw[fD,Yd] at hj
   match j,hj with
   |0,hj=>
    rw[add_plain,Wy.out];simpa using hj
   |j+1,hj=>simp at hj) (lT [x]) (by unfold maxLen;omega) (by omega) (by omega) ?_;intro v' w2 Ck AJ OC hat;have Ad:w2.heap[b]?=some (.cells #[.pointer (some ⟨b,0,none⟩),v] 210):=(AJ.block b (by rw[Ar];omega) (fun e=>hne e.symm)).trans ((Au.block b atX).trans HB1);have d1:w2.cell? ⟨b,1,none⟩=some v:=(by rw[Lib.cell_of_heap Ad];rfl);have f1:w2.frozen? ⟨b,1,none⟩=false:=Lib.frozen_of_heap Ad 1;obtain⟨ao,cap,rfl⟩:=ownsRow_succ Ck;have P9:=Hi Ck;have Du:=Hi AJ;have IQ:=Hi hat;have Ak:=Hi Ad;clear Ck AJ OC hat Ad)
 go_ret;have JK:(Value.slice (some ⟨ao,0,none⟩) (l.length+1) cap).ownBlock≠some b:=by
  rcases IQ.out with hat|hat
  ·rw[hat];exact hne
  ·rw[hat];intro e;have:=Gu e;rw[Ar] at this;omega
 have Eu:A7 (fun k=>k=b∨v.ownBlock=some k) w w2:=((Gq.mono (fun i e=>Or.inl e)).trans (A7.of_below (F:=fun k=>k=b∨v.ownBlock=some k) Au) (fun i e=>.inl e)).trans (A7.of_grownBy (F:=fun k=>k=b∨v.ownBlock=some k) Du (fun q e=>.inr e)) (fun i e=>.inl e);have Dk:=Eu.setCell (p:=⟨b,1,none⟩) (.inl (.inl rfl)) (.slice (some ⟨ao,0,none⟩) (l.length+1) cap);refine⟨rfl,fun q=>q=b∨(Value.slice (some ⟨ao,0,none⟩) (l.length+1) cap).ownBlock=some q,⟨some ⟨b,0,none⟩,.slice (some ⟨ao,0,none⟩) (l.length+1) cap,Cf w2 b 1 _ _ _ Ak,.inr rfl,?_,JK,fun e=>by simp at e,rfl⟩,Dk,?_⟩
 ·rw[Az,Yc];exact BH P9 ((A7.refl (fun q=>q=b) w2).setCell (p:=⟨b,1,none⟩) (.inl rfl) _) (fun q hq e=>JK (by rw[hq,e]))
 ·rintro q (rfl|hq)
  ·exact .inl (.inl rfl)
  ·rcases IQ.out with hat|hat
   ·exact .inl (.inr ((show _=v.ownBlock from hat).symm.trans hq))
   ·rw[hat] at hq;have:=Gu hq;rw[Ar] at this;exact .inr (by have:=Gq.size;omega)
def digits:T:=[48,49,50,51,52,53,54,55,56,57,97,98,99,100,101,102]
theorem aqV:∀ k:Fin 16,digits[k.val]'k.isLt=FV k.val:=by decide
theorem yV(k:Nat)(hk:k < 16)(h:k < ({ data:=#[48,49,50,51,52,53,54,55,56,57,97,98,99,100,101,102] }:ByteArray).size):({ data:=#[48,49,50,51,52,53,54,55,56,57,97,98,99,100,101,102] }:ByteArray)[k]'h=FV k:=aqV ⟨k,hk⟩
theorem aau(s:T)(w:World)(hs:s.length≤1000000000):Calls prog 50 #[.string (bs s)] w fun e w'=>e=.returned (.string (bs (Er s)))∧Bw w w':=by
 have AR:=Hi ((Ah w.heap.size w).alloc (Ae _) (.cells #[.pointer none,.slice none 0 0] 210));have De:=Hi (Ep.made w)
 go_in
 go_wp2
 go_loopw [7] (fun i wr=>∃ (k:Nat) (fp:Nat→Prop),k≤s.length∧i=.int .i64 (k:Int)∧Ep wr w.heap.size (Er (s.take k)) fp∧(∀ q,fp q→w.heap.size≤q)∧Bw w wr) (fun i _=>s.length -(intOf i).toNat)
 case atStart=>exact⟨0,_,AZ _,rfl,by rw[I8];exact De.out,fun q hq=>by
  rcases hq with h|h
  ·omega
  ·simp[Value.ownBlock] at h,AR⟩
 case round=>
  clear De AR;obtain⟨k,fp,hk,rfl,Fh,Gj,hb⟩:=hrel;have De:=Hi Fh;have Fa:=Hi Gj;have HB:=Hi hb;clear Fh Gj hb;by_cases hlt:k < s.length
  ·have HT:=Hi (show Er (s.take (k+1))=Er (s.take k)++[FV (s[k].toNat / 16)]++[FV (s[k].toNat % 16)] from by rw[CQ hlt,ai7];simp[Er]);have hlen:(Er (s.take k)).length≤2000000000:=(by rw[Rx,Be];omega);have MS:=s[k].toNat_lt;have VB:s[k].toNat / 16 < 16:=(by omega);have zP:s[k].toNat % 16 < 16:=(by omega);go_wp2_with fail;refine(yz De _ (by omega)).mono ?_;rintro e w1⟨rfl,ET,h1,h2,h3⟩;rw[yV _ VB] at h1;have Q8:=Hi h1;have adV:=Hi (show ∀ q,ET q→w.heap.size≤q from fun q hq=>(h3 q hq).elim (Fa q) (fun e=>Ay HB.size e));have HB1:=Hi (Cq HB h2 Fa HB.size);clear h1 h2 h3;go_wp2_with fail;refine(yz Q8 _ (by simp;omega)).mono ?_;rintro e w2⟨rfl,fp2,h1,h2,h3⟩;rw[yV _ zP] at h1;have OW:=Hi h1;have gK:=Hi (show ∀ q,fp2 q→w.heap.size≤q from fun q hq=>(h3 q hq).elim (adV q) (fun e=>Ay HB1.size e));have Ak:=Hi (Cq HB1 h2 adV HB1.size);clear h1 h2 h3;go_wp2;go_roundw
   case rel=>exact⟨k+1,fp2,by omega,by go_num,by rw[HT.out];exact OW.out,gK,Ak⟩
   case measure=>simp[intOf];omega
  ·obtain rfl:k=s.length:=(by omega);rw[Dq] at De;go_wp2_with fail;refine(WX De).mono ?_;rintro e w1⟨rfl,hu⟩;have HB1:=Hi (Cq HB hu Fa HB.size);clear hu;go_wp2;go_ret;exact⟨rfl,HB1⟩
theorem afP(c:UInt8)(w:World):Calls prog 173 #[.int .u8 (c.toNat:Int)] w fun e w'=>e=.returned (.tuple #[.int .u8 (((val c).getD 0:Nat):Int),.bool (val c).isSome])∧w=w':=by
 have hc:=c.toNat_lt;by_cases h1:48≤c.toNat∧c.toNat≤57
 ·have hv:Hid (val c=some (c.toNat -48)):=Hi (by unfold val;rw[Ac h1]);have a1:(48:Int)≤(c.toNat:Int):=by omega
  have a2:(c.toNat:Int)≤57:=by omega
  have a3:IntKind.u8.wrap ((c.toNat:Int) -48)=((c.toNat -48:Nat):Int):=by rw[show IntKind.u8.wrap ((c.toNat:Int) -48)=((c.toNat:Int) -48) % 256 by simp[IntKind.wrap,IntKind.bits,IntKind.signed]];omega
  rw[hv.out];clear h1
  go_in
  go_wp2;go_ret2;exact⟨rfl,rfl⟩
 ·by_cases h2:97≤c.toNat∧c.toNat≤102
  ·have hv:Hid (val c=some (c.toNat -87)):=Hi (by unfold val;rw[Aa h1,Ac h2]);have a1:(48:Int)≤(c.toNat:Int):=(by omega);have a2:¬ (c.toNat:Int)≤57:=(by omega);have a4:(97:Int)≤(c.toNat:Int):=(by omega);have a5:(c.toNat:Int)≤102:=(by omega);rw[hv.out];clear h1 h2
   go_in
   go_wp2;go_ret2;refine⟨?_,rfl⟩
   show Ending.returned (.tuple #[.int .u8 ((c.toNat:Int) -97+10),.bool true])=_
   rw[show((c.toNat:Int) -97+10)=((c.toNat -87:Nat):Int) by omega];try rfl
  ·have hv:Hid (val c=none):=Hi (by unfold val;rw[Aa h1,Aa h2]);rw[hv.out];by_cases b1:48≤c.toNat
   ·have a1:(48:Int)≤(c.toNat:Int):=(by omega);have a2:¬ (c.toNat:Int)≤57:=(by omega);by_cases b2:97≤c.toNat
    ·have a4:(97:Int)≤(c.toNat:Int):=(by omega);have a5:¬ (c.toNat:Int)≤102:=(by omega);clear h1 h2 b1 b2
     go_in
     go_wp2;go_ret2;exact⟨rfl,rfl⟩
    ·have a4:¬ (97:Int)≤(c.toNat:Int):=(by omega);clear h1 h2 b1 b2
     go_in
     go_wp2;go_ret2;exact⟨rfl,rfl⟩
   ·have a1:¬ (48:Int)≤(c.toNat:Int):=(by omega);have a4:¬ (97:Int)≤(c.toNat:Int):=(by omega);clear h1 h2 b1
    go_in
    go_wp2;go_ret2;exact⟨rfl,rfl⟩
theorem ad8:∀ (n:Nat) (s:T),s.length≤n→s.length % 2=1→F3 s=none
 |_,[],_,h=>by simp at h
 |_,[a],_,_=>rfl
 |0,_ :: _ :: _,h,_=>by simp at h
 |n+1,a :: b :: s,h,h2=>by
  rw[F3,ad8 n s (by simp at h;omega) (by simp at h2 ⊢;omega)];cases val a<;>cases val b<;>rfl
theorem ant{s:T}{k:Nat}{S:T}(h:k+1 < s.length)(hS:F3 s=(F3 (s.drop k)).map (S++ ·)):F3 s=match val (s[k]'(by omega)),val s[k+1] with
  |some x,some y=>(F3 (s.drop (k+2))).map ((S++[UInt8.ofNat (16*x+y)])++ ·)
  |_,_=>none:=by
 have e1:s.drop k=(s[k]'(by omega)) :: s[k+1] :: s.drop (k+2):=by
  rw[QY (by omega),QY h]
 rw[hS,e1,F3];cases val (s[k]'(by omega)) with
 |none=>rfl
 |some x=>
  cases val s[k+1] with
  |none=>rfl
  |some y=>
   simp only[Option.map_map]
   congr 1
   funext z
   simp
theorem Jb{c:UInt8}{x:Nat}(h:val c=some x):x < 16:=by
 unfold val at h;split at h
 ·simp only[Ci] at h;omega
 ·split at h
  ·simp only[Ci] at h;omega
  ·cases h
theorem aun:∀ x:Fin 16,∀ y:Fin 16,bits BinOp.or IntKind.u8 ((x.val:Int)*16) (y.val:Int)=((UInt8.ofNat (16*x.val+y.val)).toNat:Int):=by decide+kernel
theorem aum(x y:Nat)(hx:x < 16)(hy:y < 16):bits BinOp.or IntKind.u8 ((x:Int)*16) (y:Int)=((UInt8.ofNat (16*x+y)).toNat:Int):=aun ⟨x,hx⟩ ⟨y,hy⟩
def He(s:T):T×Int:=match F3 s with|none=>([],7)|some t=>(t,0)
theorem ad9(s:T)(w:World)(hs:s.length≤1000000000):Calls prog 86 #[.string (bs s)] w fun e w'=>e=.returned (.tuple #[.string (bs (He s).1),.int .i64 (He s).2])∧Bw w w':=by
 by_cases QC:s.length % 2=1
 ·have hR:Hid (He s=([],7)):=Hi (by unfold He;rw[ad8 _ s (Ae _) QC]);have hm:(s.length:Int).tmod 2=1:=by rw[Int.tmod_eq_emod_of_nonneg (by omega)];omega
  have Kb:(s.length:Int) % 2=1:=by omega
  rw[hR.out];clear QC
  go_in
  go_wp2;go_ret2;exact⟨rfl,Ah _ _⟩
 ·have hm:(s.length:Int).tmod 2=0:=by rw[Int.tmod_eq_emod_of_nonneg (by omega)];omega
  have Kb:(s.length:Int) % 2=0:=by omega
  have AR:=Hi ((Ah w.heap.size w).alloc (Ae _) (.cells #[.pointer none,.slice none 0 0] 210));have De:=Hi (Ep.made w);have vX:=Hi QC;clear QC
  go_in
  go_wp2
  go_loopw [5] (fun i wr=>∃ (m:Nat) (S:T) (fp:Nat→Prop),m % 2=0∧m≤s.length∧i=.int .i64 (m:Int)∧2*S.length=m∧F3 s=(F3 (s.drop m)).map (S++ ·)∧Ep wr w.heap.size S fp∧(∀ q,fp q→w.heap.size≤q)∧Bw w wr) (fun i _=>s.length -(intOf i).toNat)
  case atStart=>exact⟨0,[],_,rfl,AZ _,rfl,rfl,by simp,De,fun q hq=>by
   rcases hq with h|h
   ·omega
   ·simp[Value.ownBlock] at h,AR⟩
  case round=>
   clear De AR;obtain⟨m,S,fp,RB,hk,rfl,Px,NI,Fh,Gj,hb⟩:=hrel;have De:=Hi Fh;have Fa:=Hi Gj;have HB:=Hi hb;have MH:=Hi Px;have HM:=Hi RB;clear Fh Gj hb Px RB;by_cases hlt:m+1 < s.length
   ·have Bl:=ant hlt NI;have dD:(m:Int)+1 < (s.length:Int):=(by omega);have Me:m < s.length:=(by omega);have dH:(0:Int)≤(m:Int)+1:=(by omega);have Qb:=Hi (fun(W:World)=>afP (s[m]'Me) W);have Nq:=Hi (fun(W:World)=>afP (s[m+1]'hlt) W);have Bi:=Hi Bl;clear Bl NI;cases J4:val (s[m]'Me) with
    |none=>
     have hR:Hid (He s=([],7)):=Hi (by unfold He;rw[Bi.out,J4]);rw[J4] at Qb;clear J4 Bi;go_wp2_with fail;refine(Qb _).mono ?_;rintro e w1⟨rfl,rfl⟩;go_wp2_with fail;refine(Nq _).mono ?_;rintro e w2⟨rfl,rfl⟩;go_wp2;go_ret2;rw[hR.out];exact⟨rfl,HB⟩
    |some x=>
     cases Gr:val (s[m+1]'hlt) with
     |none=>
      have hR:Hid (He s=([],7)):=Hi (by unfold He;rw[Bi.out,J4,Gr]);rw[J4] at Qb;rw[Gr] at Nq;clear J4 Gr Bi;go_wp2_with fail;refine(Qb _).mono ?_;rintro e w1⟨rfl,rfl⟩;go_wp2_with fail;refine(Nq _).mono ?_;rintro e w2⟨rfl,rfl⟩;go_wp2;go_ret2;rw[hR.out];exact⟨rfl,HB⟩
     |some y=>
      have hx:x < 16:=Jb J4;have hy:y < 16:=Jb Gr;have BO:=Hi (show F3 s=(F3 (s.drop (m+2))).map ((S++[UInt8.ofNat (16*x+y)])++ ·) from by rw[Bi.out,J4,Gr]);have RF:bits BinOp.or IntKind.u8 ((x:Int)*16) (y:Int)=((UInt8.ofNat (16*x+y)).toNat:Int):=aum x y hx hy;have CZ:S.length+1≤1099511627776:=(by have:=MH.out;omega);rw[J4] at Qb;rw[Gr] at Nq;clear J4 Gr Bi;go_wp2_with fail;refine(Qb _).mono ?_;rintro e w1⟨rfl,rfl⟩;go_wp2_with fail;refine(Nq _).mono ?_;rintro e w2⟨rfl,rfl⟩;go_wp2_with fail;refine(yz De (UInt8.ofNat (16*x+y)) CZ).mono ?_;rintro e w3⟨rfl,bG,h1,h2,h3⟩;have TN:=Hi h1;have aos:=Hi (show ∀ q,bG q→w.heap.size≤q from fun q hq=>(h3 q hq).elim (Fa q) (fun e=>Ay HB.size e));have AA:=Hi (Cq HB h2 Fa HB.size);clear h1 h2 h3;go_wp2;go_roundw
      case rel=>exact⟨m+2,S++[UInt8.ofNat (16*x+y)],bG,by have:=HM.out;omega,by omega,by go_num,by have:=MH.out;simp;omega,BO,TN,aos,AA⟩
      case measure=>simp[intOf];omega
   ·obtain rfl:m=s.length:=(by have:=HM.out;have:=vX.out;omega);have hR:Hid (He s=(S,0)):=Hi (by unfold He;rw[NI,List.drop_length];simp[F3]);have dD:¬ (s.length:Int)+1 < (s.length:Int):=(by omega);clear NI hlt;go_wp2_with fail;refine(WX De).mono ?_;rintro e w1⟨rfl,hu⟩;have HB1:=Hi (Cq HB hu Fa HB.size);clear hu;go_wp2;go_ret2;rw[hR.out];exact⟨rfl,HB1⟩
end Hex
section
open Go.RowKit Go.Maps
open Af Ap
@[irreducible] def Dn (A:M):List Value:=A.flatMap fun p=>[.string (bs p.1),.string (bs p.2)]
theorem Rp:Dn []=[]:=by unfold Dn;rfl
theorem Uf(A:M)(p:T×T):Dn (A++[p])=Dn A++[.string (bs p.1),.string (bs p.2)]:=by unfold Dn;simp
theorem oV(A:M)(k:Nat)(hk:k < A.length)(j:Nat)(hj:j < 2):(Dn A)[k*2+j]?=([.string (bs A[k].1),.string (bs A[k].2)]:List Value)[j]? :=by
 unfold Dn
 induction A generalizing k with
 |nil=>simp at hk
 |cons c l ih=>
  rw[Q0];cases k with
  |zero=>
   rw[Nat.zero_mul,GJ,List.getElem?_append_left (by simp;omega)];rfl
  |succ k=>
   rw[List.getElem?_append_right (by simp;omega),show(k+1)*2+j -([Value.string (bs c.1),.string (bs c.2)]:List Value).length=k*2+j by simp;omega];exact ih k (by simpa using hk)
abbrev LU(w:World)(base:Nat)(v:Value)(A:M):Prop:=w.ownsRow base 274 2 v A.length (Dn A)
theorem arK:(prog.info? 274).map (fun i=>(i.zero,i.size,i.bytes))=some (some (.agg #[.string ByteArray.empty,.string ByteArray.empty]),2,32):=by kernel_rfl
theorem LU.index{w:World}{base cap k:Nat}{q:Option Addr}{A:M}(h:LU w base (.slice q A.length cap) A)(hk:k < A.length):
  ∃ p:Addr,(∀ W,(Instr.indexAt 172 (.slice q A.length cap) (.int .i64 (k:Int))).run prog W=.ok (.pointer (some p)) W)∧w.cell? p=some (.string (bs A[k].1))∧w.cell? ⟨p.block,p.off+1,none⟩=some (.string (bs A[k].2)):=by
 rcases h.2 with⟨e1,e2⟩|⟨g,cap',cur,e1,_⟩
 ·omega
 ·have e2:q=some ⟨g,0,none⟩:=by injection e1
  subst e2;have hc:∀ j,j < 2→∀ v,([.string (bs A[k].1),.string (bs A[k].2)]:List Value)[j]?=some v→w.cell? (((⟨g,0,none⟩:Addr).add (k*2)).add j)=some v:=fun j hj v hv=>by
   rw[←oV A k hk j hj] at hv;have:=h.cells (g:=g) rfl _ _ hv;rw[add_plain] at this ⊢;rw[Vs];exact this
  refine⟨_,fun W=>IM prog _ 274 underlying172 2 (by kernel_rfl) ⟨g,0,none⟩ A.length cap k hk W,?_,?_⟩
  ·have:=hc 0 (by omega) _ rfl;rwa[add_zero'] at this
  ·exact hc 1 (by omega) _ rfl
def Hq(w:World)(r:Nat)(v:Value)(A:M)(most:Int):Prop:=w.heap[r]?=some (.cells #[v,.int .i64 most] 174)∧LU w 0 v A
theorem Hq.below{w w':World}{r:Nat}{v:Value}{A:M}{most:Int}(h:Hq w r v A most)(hb:Bw w w'):Hq w' r v A most:=
 ⟨(hb.block r (Ao h.1)).trans h.1,BH h.2 (ub hb) (fun _ _ f=>f)⟩
theorem Hq.noS{w w':World}{r:Nat}{v:Value}{A:M}{most:Int}{bl:Nat→Prop}(h:Hq w r v A most)(hu:A7 (Ig w bl) w w'):Hq w' r v A most:=
 ⟨hu.noS h.1 (by decide),BH h.2 hu (fun _ hg e=>e.not (CB h.2 hg) (by decide))⟩
def FB(c:Am):Bool→M→M
 |d,[]=>if d then[] else[(c.name,c.data)]
 |d,p :: l=>(if d=false∧¬ p.1 < c.name then[(c.name,c.data)] else[])++((if p.1=c.name then[] else[p])++FB c (d || !decide (p.1 < c.name)) l)
theorem alA(c:Am)(l:M):FB c true l=l.filter fun p=>!(p.1 == c.name):=by
 induction l with
 |nil=>rfl
 |cons p l ih=>
  unfold FB;rw[Aa (by simp),Bool.true_or,ih,Ev];by_cases h:p.1=c.name
  ·rw[Ac h,QZ (by simpa using h)];rfl
  ·rw[Aa h,UX (by simpa using h)];rfl
theorem alB{c:Am}{A:M}(h:Up A):FB c c.gone A=Am.on A c:=by
 unfold Am.on;cases c.gone with
 |true=>rw[Ac rfl,alA];rfl
 |false=>
  rw[Aa (by simp)];unfold Af.put
  induction A with
  |nil=>rfl
  |cons p l ih=>
   have hl:=JX.1 h;unfold FB;by_cases h1:p.1 < c.name
   ·have h2:=QQ h1;rw[Aa (by simp[h1]),Aa (KV h1),UX (by simpa using h1),QZ (by simpa using h2)];simp only[h1,decide_true,Bool.not_true,Bool.or_self,Ev,Hf];rw[ih hl.2]
   ·have hall:∀ q∈l,c.name < q.1:=fun q hq=>by
     rcases kQ c.name p.1 with e|e|e
     ·exact XW e (hl.1 q hq)
     ·rw[e];exact hl.1 q hq
     ·exact absurd e h1
    rw[Ac ⟨rfl,h1⟩,QZ (by simpa using h1),filter_none (fun q hq=>by simpa using QQ (hall q hq)),Ev];simp only[h1,decide_false,Bool.not_false,Bool.or_true];rw[alA,filter_all (F:=l) (p:=fun p=>!(p.1 == c.name)) (fun q hq=>by simpa using(KV (hall q hq)).symm)];by_cases h2:p.1=c.name
    ·rw[Ac h2,QZ (by rw[h2];simp),filter_all (fun q hq=>by simpa using hall q hq)];rfl
    ·have h3:c.name < p.1:=by
      rcases kQ c.name p.1 with e|e|e
      ·exact e
      ·exact absurd e.symm h2
      ·exact absurd e h1
     rw[Aa h2,UX (by simpa using h3),filter_all (fun q hq=>by simpa using hall q hq)];rfl
section
variable {w w':World}
theorem ayJ(n:Nat)(hn:n≤16384)(w:World):Calls prog 174 #[.int .i64 (n:Int)] w fun e w'=>e=.returned (.int .i64 (lg n:Nat))∧w=w':=by
 have hq:(n:Int).tdiv 8=((n / 8:Nat):Int):=by rw[Int.tdiv_eq_ediv_of_nonneg (by omega)];omega
 have hl:lg n=max (n / 8) 2:=rfl;have HL:=Hi hl;clear hl;obtain⟨k,hk⟩:=ex (n / 8);rw[hk] at hq HL;have di:k≤16384:=by omega
 clear hk
 go_in
 go_wp2;go_ret;refine⟨?_,rfl⟩;rw[HL.out,show((max k 2:Nat):Int)=max (k:Int) 2 by omega];rfl
theorem ayg(n:Nat)(h8:8≤n)(hn:n≤16384)(w:World):Calls prog 91 #[.int .i64 (n:Int)] w fun e w'=>e=.returned (.int .i64 (sz n:Nat))∧w=w':=by
 obtain⟨l1,l2,l3⟩:=ZJ h8;have hs:Hid (sz n=(n -1 -lg n) / 2):=Hi rfl;have HLG:=Hi (ayJ n hn w);obtain⟨k,hk⟩:=ex (lg n);rw[hk] at hs HLG l1 l3;have hq:((n:Int) -1 -(k:Int)).tdiv 2=(((n -1 -k) / 2:Nat):Int):=by rw[Int.tdiv_eq_ediv_of_nonneg (by omega)];omega
 clear hk l2
 go_in
 go_wp2_with fail;refine HLG.mono ?_;rintro e w1⟨rfl,rfl⟩;go_wp2;go_ret;rw[hs.out];exact⟨rfl,rfl⟩
theorem ayN{n:Nat}(h8:8≤n):(64*(sz n:Int) -4:Int)=(Cn n:Int):=by
 obtain⟨l1,l2,l3⟩:=ZJ h8;unfold Cn;omega
theorem ayK(n:Nat)(h8:8≤n)(hn:n≤16384)(w:World):Calls prog 39 #[.int .i64 (n:Int)] w fun e w'=>∃ r,e=.returned (.pointer (some ⟨r,0,none⟩))∧Hq w' r (.slice none 0 0) [] (Cn n)∧w.heap.size≤r∧Bw w w':=by
 have HA:=Hi (ayg n h8 hn w);have HR:=Hi (ayN h8);have hb:sz n≤16384:=by unfold sz;omega
 generalize sz n=k at*
 go_in
 go_wp2_with fail;refine HA.mono ?_;rintro e w1⟨rfl,rfl⟩;go_wp2;go_ret;refine⟨w.heap.size,rfl,⟨?_,by show World.ownsRow _ 0 _ 2 _ 0 (Dn []);rw[Rp];exact E5 _ _ _ _⟩,Ae _,AV _ _⟩;rw[←HR.out];exact AP _ _
theorem amb(nm dt:T)(g:Bool)(w:World)(h1:nm.length≤maxLen)(h2:dt.length≤maxLen):
  Calls prog 118 #[.agg #[.string (bs nm),.string (bs dt),.bool g]] w fun e w'=>e=.returned (.bool (Am.may ⟨nm,dt,g⟩))∧Bw w w':=by
 have HB:=Hi (AV w (.cells #[.string (bs nm),.string (bs dt),.bool g] 57));unfold maxLen at h1 h2;have hn:nm≠[]↔1≤nm.length:=by cases nm<;>simp
 by_cases c1:1≤nm.length∧nm.length≤32∧dt.length≤65535
 ·obtain⟨c1,c2,c3⟩:=c1;have i1:(1:Int)≤(nm.length:Int):=by omega
  have i2:(nm.length:Int)≤32:=by omega
  have i3:(dt.length:Int)≤65535:=by omega
  cases g with
  |false=>
   have hv:Hid (Am.may ⟨nm,dt,false⟩=true):=Hi (by unfold Am.may Fq;rw[OT (show nm≠[]∧nm.length≤32∧dt.length≤65535 from⟨hn.2 c1,c2,c3⟩)];rfl);rw[hv.out];clear hn
   go_in
   go_wp2;go_ret;exact⟨by simp,HB⟩
  |true=>
   by_cases h4:dt=[]
   ·have hv:Hid (Am.may ⟨nm,dt,true⟩=true):=Hi (by unfold Am.may Fq;rw[OT (show nm≠[]∧nm.length≤32∧dt.length≤65535 from⟨hn.2 c1,c2,c3⟩),h4];rfl);have hf:dt.isEmpty=true:=(by simpa using h4);rw[hv.out];clear hn h4
    go_in
    go_wp2;go_ret;exact⟨by simp,HB⟩
   ·have hf:dt.isEmpty=false:=(by simpa using h4);have hv:Hid (Am.may ⟨nm,dt,true⟩=false):=Hi (by unfold Am.may;simp only;rw[hf];simp);rw[hv.out];clear hn h4
    go_in
    go_wp2;go_ret;exact⟨by simp,HB⟩
 ·have hv:Hid (Am.may ⟨nm,dt,g⟩=false):=Hi (by
   unfold Am.may Fq;rw[decide_eq_false (show ¬ (nm≠[]∧nm.length≤32∧dt.length≤65535) from fun e=>c1 ⟨hn.1 e.1,e.2⟩)];rfl)
  rw[hv.out];clear hn;by_cases d1:1≤nm.length
  ·by_cases d2:nm.length≤32
   ·have i1:(1:Int)≤(nm.length:Int):=(by omega);have i2:(nm.length:Int)≤32:=(by omega);have i3:¬ (dt.length:Int)≤65535:=(by omega);clear c1
    go_in
    go_wp2;go_ret;exact⟨by simp,HB⟩
   ·have i1:(1:Int)≤(nm.length:Int):=(by omega);have i2:¬ (nm.length:Int)≤32:=(by omega);clear c1
    go_in
    go_wp2;go_ret;exact⟨by simp,HB⟩
  ·have i1:¬ (1:Int)≤(nm.length:Int):=(by omega);clear c1
   go_in
   go_wp2;go_ret;exact⟨by simp,HB⟩
theorem LU.abQ{base Ub n:Nat}{v:Value}{xs:List Value}(h:w.ownsRow base 274 2 v n xs)(hb:Ub≤base):w.ownsRow Ub 274 2 v n xs:=by
 refine⟨h.1,?_⟩;rcases h.2 with h2|⟨g,cap,cur,e0,Gh,h3⟩
 ·exact .inl h2
 ·exact .inr ⟨g,cap,cur,e0,Ay hb Gh,h3⟩
