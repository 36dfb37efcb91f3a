/- ManC PrsP KeepP SwpP FckP HexP LinP HexW RefFil PrsW PrsX -/
import Derived.Test.YtkmninbcgipliaaGreatDoorW6
import Derived.Laws.AppendOwnNone
import Derived.Lib.SplitLaws
set_option maxHeartbeats 4000000
set_option maxRecDepth 100000
set_option linter.all false
namespace Go.Proofs.YtkmninbcgipliaaGreatDoor
open Tryz
namespace Aq
open Go.Lib Ah
def M7(l:List T):Prop:=l.Pairwise (· < ·)
theorem bD{a b:T}(h:a≤b):a < b∨a=b:=by
 rcases nL a b with e|e|e
 ·exact .inl e
 ·exact .inr e
 ·exact absurd e (List.not_lt.2 h)
theorem ahr(z:List T)(hz:z.Pairwise (· ≤ ·)):∀ m,m≤z.length→M7 (compactUpTo z.toArray m)∧∀ x,x∈compactUpTo z.toArray m↔x∈z.take m:=by
 intro m
 induction m with
 |zero=>exact fun _=>⟨by simp[M7,compactUpTo],fun x=>by simp[compactUpTo]⟩
 |succ m ih=>
  intro hm;obtain⟨h1,h2⟩:=ih (by omega);have LG:∀ j,(h:j < z.length)→z.toArray[j]! =z[j]:=fun j h=>by rw[getElem!_pos z.toArray j (by simpa using h)];simp
  have X4:∀ x,x∈z.take (m+1)↔x∈z.take m∨x=z[m]'(by omega):=fun x=>by
   rw[Cr (by omega),Es,Fu]
  rw[compactUpTo_succ];by_cases hk:keeps z.toArray m=true
  ·rw[Ae hk,LG m (by omega)];refine⟨List.pairwise_append.2 ⟨h1,by simp,fun a ha b hb=>?_⟩,fun x=>by rw[Es,h2 x,X4 x,Fu]⟩;rw[Fu] at hb;subst hb;obtain⟨i,hi,e⟩:=List.mem_take_iff_getElem.1 ((h2 a).1 ha);have uE:i < m:=(by omega);have hne:z[m]'(by omega)≠z[m -1]'(by omega):=by
    have h3:=O0 hk;rcases h3 with h3|h3
    ·omega
    ·rwa[LG m (by omega),LG (m -1) (by omega)] at h3
   have l1:z[m -1]'(by omega) < z[m]'(by omega):=by
    rcases bD ((List.pairwise_iff_getElem.1 hz) (m -1) m (by omega) (by omega) (by omega)) with e|e
    ·exact e
    ·exact absurd e.symm hne
   by_cases uH:i=m -1
   ·subst uH;rw[←e];exact l1
   ·rcases bD ((List.pairwise_iff_getElem.1 hz) i (m -1) (by omega) (by omega) (by omega)) with e'|e'
    ·rw[←e];exact YY e' l1
    ·rw[←e,e'];exact l1
  ·rw[A9 hk,Eg];refine⟨h1,fun x=>?_⟩;rw[h2 x,X4 x];have h3:¬ (m=0∨z.toArray[m]! ≠z.toArray[m -1]!):=fun e=>hk (LY e)
   have SV:0 < m:=by
    by_cases e:m=0
    ·exact absurd (.inl e) h3
    ·omega
   have he:z.toArray[m]! =z.toArray[m -1]! :=Classical.byContradiction fun e=>h3 (.inr e)
   rw[LG m (by omega),LG (m -1) (by omega)] at he;refine⟨.inl,fun e=>e.elim id fun e=>?_⟩;rw[e,he];exact List.mem_take_iff_getElem.2 ⟨m -1,by omega,rfl⟩
theorem apb(l:List T):(l.mergeSort fun x y=>decide (x≤y)).Pairwise (· ≤ ·):=by
 have:=List.pairwise_mergeSort (le:=fun x y:T=>decide (x≤y)) (fun a b c h1 h2=>by simpa using List.le_trans (by simpa using h1) (by simpa using h2)) (fun a b=>by
  rcases List.le_total a b with h|h<;>simp[h]) l
 exact this.imp (fun h=>by simpa using h)
theorem Ko(l:List T):M7 (Bi l):=by
 unfold Bi compact;exact(ahr _ (apb l) _ (Ag _)).1
theorem El(l:List T)(x:T):x∈Bi l↔x∈l:=by
 unfold Bi compact;rw[(ahr _ (apb l) _ (Ag _)).2 x,D5];exact List.mem_mergeSort
theorem RU:∀ {a b:List T},M7 a→M7 b→(∀ x,x∈a↔x∈b)→a=b
 |[],[],_,_,_=>rfl
 |[],y :: b,_,_,h=>absurd ((h y).2 (by simp)) (by simp)
 |x :: a,[],_,_,h=>absurd ((h x).1 (by simp)) (by simp)
 |x :: a,y :: b,ha,hb,h=>by
  obtain⟨a1,a2⟩:=Ky.1 ha;obtain⟨b1,b2⟩:=Ky.1 hb;have Js:x=y:=by
   rcases Ch.1 ((h x).1 (by simp)) with e|e
   ·exact e
   ·rcases Ch.1 ((h y).2 (by simp)) with e'|e'
    ·exact e'.symm
    ·exact absurd (a1 y e') (RJ (b1 x e))
  subst Js;rw[RU a2 b2 fun z=>⟨fun hz=>?_,fun hz=>?_⟩]
  ·rcases Ch.1 ((h z).1 (Fs _ hz)) with e|e
   ·exact absurd (a1 z hz) (by rw[e];exact Td _)
   ·exact e
  ·rcases Ch.1 ((h z).2 (Fs _ hz)) with e|e
   ·exact absurd (b1 z hz) (by rw[e];exact Td _)
   ·exact e
theorem o8{l:List T}(h:M7 l):Bi l=l:=RU (Ko l) h (El l)
def Km(l:List T)(x:T):List T:=l.takeWhile (fun y=>decide (y < x))++(if(l.dropWhile fun y=>decide (y < x)).head?=some x then l.dropWhile (fun y=>decide (y < x)) else x :: l.dropWhile fun y=>decide (y < x))
theorem ae2(y:T)(l:List T)(x:T):Km (y :: l) x=if y < x then y :: Km l x else if y=x then y :: l else x :: y :: l:=by
 unfold Km;by_cases h:y < x
 ·rw[List.takeWhile_cons_of_pos (by simpa using h),List.dropWhile_cons_of_pos (by simpa using h),Ae h];rfl
 ·rw[List.takeWhile_cons_of_neg (by simpa using h),List.dropWhile_cons_of_neg (by simpa using h),A9 h];simp only[List.head?_cons,Cu,EE]
theorem ao0(l:List T)(x z:T):z∈Km l x↔z∈l∨z=x:=by
 induction l with
 |nil=>simp[Km]
 |cons y l ih=>
  rw[ae2];split
  ·rw[Ch,ih,Ch,or_assoc]
  ·split
   ·rename_i h;rw[Ch];subst h;constructor
    ·exact .inl
    ·rintro(e|e)
     ·exact e
     ·exact .inl e
   ·rw[Ch];exact or_comm
theorem aAJ{l:List T}(h:M7 l)(x:T):M7 (Km l x):=by
 induction l with
 |nil=>simp[Km,M7]
 |cons y l ih=>
  obtain⟨h1,h2⟩:=Ky.1 h;rw[ae2];split
  ·rename_i hy
   refine Ky.2 ⟨fun z hz=>?_,ih h2⟩;rcases(ao0 l x z).1 hz with e|e
   ·exact h1 z e
   ·rw[e];exact hy
  ·rename_i hy
   split
   ·exact h
   ·rename_i hne
    have Js:x < y:=by
     rcases nL x y with e|e|e
     ·exact e
     ·exact absurd e.symm hne
     ·exact absurd e hy
    refine Ky.2 ⟨fun z hz=>?_,h⟩;rcases Ch.1 hz with e|e
    ·rw[e];exact Js
    ·exact YY Js (h1 z e)
def aef(l:List T):List T:=l.foldl Km []
theorem aBn(l:List T):∀ o,M7 o→M7 (l.foldl Km o)∧∀ z,z∈l.foldl Km o↔z∈o∨z∈l:=by
 induction l with
 |nil=>exact fun o h=>⟨h,fun z=>by simp⟩
 |cons x l ih=>
  intro o h;obtain⟨h1,h2⟩:=ih _ (aAJ h x);refine⟨h1,fun z=>?_⟩
  show z∈l.foldl Km (Km o x)↔_
  rw[h2 z,ao0,Ch,or_assoc]
theorem aeg(l:List T):aef l=Bi l:=by
 obtain⟨h1,h2⟩:=aBn l [] List.Pairwise.nil;exact RU h1 (Ko l) fun z=>by rw[El];exact(h2 z).trans (by simp)
end Aq
namespace Aq
open Go.RowKit Go.Maps Aw Ah
theorem xY{w:World}{ops:Array Oper}{rest:List Oper}{o:Oper}{a:Act}{Q:Exit→Act→World→Prop}(Jm:o.guard=none)(s x:Operand)
  (ho:o.op=.call { callee:=.builtin .append,args:=#[s,x],argTypes:=#[61,61] })
  (base:Nat)(v:Value)(l k:List T)(hs:a.eval s=v)(hown:Bt w base v l)(q:Option Addr)(cap:Nat)(hx:a.eval x=.slice q k.length cap)(hk:Dz w q k)(hq:q=none→cap=0)
  (hn:l.length+k.length≤1000000)(MZ:base≤w.heap.size)
  (h:∀ v' w',Bt w' base v' (l++k)→w.grownBy w' v.ownBlock→(v'.ownBlock=v.ownBlock∨v'.ownBlock=some w.heap.size)→wpList prog ops Q rest (a.put o.dst v') w'):
  wpList prog ops Q (o :: rest) a w:=by
 obtain⟨i0,Bh,AY,AZ,Bb⟩:=Dy aeB;cases q with
 |none=>
  obtain rfl:k=[]:=by
   cases k with
   |nil=>rfl
   |cons y k=>
    obtain⟨p,hp,_⟩:=hk 0 (by simp);cases hp
  rw[hq rfl] at hx;refine wpList_append_own_none Jm s x _ ho base 9 i0 1 underlying61 Bh v l.length (strCells l) hs hown hx ?_;exact h v w (by rw[Eg];exact hown) (World.grownBy.refl w _) (.inl rfl)
 |some ad=>
  refine wpList_append_own_at w Jm s x _ ho base 9 i0 _ 1 16 underlying61 Bh AY AZ Bb rfl (by decide) v l.length (strCells l) hs hown ad k.length cap (strCells k) hx (by rw[Nat.mul_one];simp[strCells]) (fun j u hu=>?_) (fun u hu=>?_) (by unfold maxLen;omega) (by omega) MZ ?_
  ·have hj:j < k.length:=by
    have:=(Uy.1 hu).1;simpa[strCells] using this
   obtain⟨p,hp,hc⟩:=hk j hj;cases hp;rw[Zb k j hj] at hu;rw[hc,hu]
  ·unfold strCells at hu;obtain⟨y,_,rfl⟩:=Bv.1 hu;rfl
  ·intro v' w' h1 h2 _ h4;refine h v' w' ?_ h2 h4;unfold Bt;rw[AA,show strCells (l++k)=strCells l++strCells k by unfold strCells;rw[CQ]];exact h1
section
variable {w w1:World}{b y n N:Nat}{bl:Nat→Prop}{A:M}
end
end Aq
namespace Aq
open Go.RowKit Go.Maps Aw Ah
attribute [local go_sem] OJ
theorem Vy{F:Nat→Prop}{W W':World}(hu:A7 F W W')(hF:∀ k o,F k→W.heap[k]?=some o→o.isCells=true):KeepsOthers W W':=
 ⟨hu.size,fun k o hk ho=>(hu.block k (Dn.1 hk).1 (fun f=>by have:=hF k o f hk;rw[ho] at this;cases this)).trans hk⟩
section
variable {w W W1 W2:World}{cB:Nat}{M:Array Value}{l:List Am}{v:Value}
end
end Aq
namespace Bu
open Go.Lib Ah Aq Aw
theorem iA{a b:T}:¬ a < b↔b≤a:=List.not_lt
theorem nK{a b:T}(h:a < b):a≤b:=iA.1 (RJ h)
theorem azi{a b c:T}(h:a < b)(k:b≤c):a < c:=by
 rcases bD k with e|e
 ·exact YY h e
 ·rw[←e];exact h
def D8(l:M):Prop:=l.Pairwise (fun a b=>a.1≤b.1)
instance (l:M):Decidable (D8 l):=inferInstanceAs (Decidable (l.Pairwise _))
theorem D8.RN{l:M}(h:Up l):D8 l:=h.imp nK
def Gw:M→M→M
 |[],b=>b
 |x :: a,[]=>x :: a
 |x :: a,y :: b=>if y.1 < x.1 then y :: Gw (x :: a) b else x :: Gw a (y :: b)
termination_by a b=>a.length+b.length
theorem vV(a:M):Gw a []=a:=by cases a<;>simp[Gw]
theorem nS(b:M):Gw [] b=b:=by simp[Gw]
theorem nP(x y:T×T)(a b:M):Gw (x :: a) (y :: b)=if y.1 < x.1 then y :: Gw (x :: a) b else x :: Gw a (y :: b):=by rw[Gw]
theorem bJ:∀ (n:Nat) (a b:M),a.length+b.length≤n→(Gw a b).Perm (a++b)
 |_,[],b,_=>by rw[nS];exact List.Perm.refl _
 |_,x :: a,[],_=>by rw[vV,Eg]
 |0,x :: a,y :: b,h=>by simp at h
 |n+1,x :: a,y :: b,h=>by
  rw[nP];split
  ·refine(List.Perm.cons y (bJ n (x :: a) b (by simp at h ⊢;omega))).trans ?_;exact(List.perm_middle (l₁:=x :: a)).symm
  ·exact List.Perm.cons x (bJ n a (y :: b) (by simp at h ⊢;omega))
theorem vW:∀ (n:Nat) (a b:M),a.length+b.length≤n→D8 a→D8 b→D8 (Gw a b)
 |_,[],b,_,_,hb=>by rw[nS];exact hb
 |_,x :: a,[],_,ha,_=>by rw[vV];exact ha
 |0,x :: a,y :: b,h,_,_=>by simp at h
 |n+1,x :: a,y :: b,h,ha,hb=>by
  obtain⟨a1,a2⟩:=Ky.1 ha;obtain⟨b1,b2⟩:=Ky.1 hb;rw[nP];split
  ·rename_i hlt
   refine Ky.2 ⟨fun z hz=>?_,vW n (x :: a) b (by simp at h ⊢;omega) ha b2⟩;rcases Es.1 ((bJ (n+1) (x :: a) b (by simp at h ⊢;omega)).mem_iff.1 hz) with e|e
   ·rcases Ch.1 e with rfl|e
    ·exact nK hlt
    ·exact List.le_trans (nK hlt) (a1 z e)
   ·exact b1 z e
  ·rename_i hlt
   refine Ky.2 ⟨fun z hz=>?_,vW n a (y :: b) (by simp at h ⊢;omega) a2 hb⟩;rcases Es.1 ((bJ (n+1) a (y :: b) (by simp at h ⊢;omega)).mem_iff.1 hz) with e|e
   ·exact a1 z e
   ·rcases Ch.1 e with rfl|e
    ·exact iA.1 hlt
    ·exact List.le_trans (iA.1 hlt) (b1 z e)
def Fq(l:M):M:=if h:l.length < 2 then l else Gw (Fq (l.take (l.length / 2))) (Fq (l.drop (l.length / 2)))
termination_by l.length
decreasing_by
 ·rw[Bc];omega
 ·rw[CF];omega
theorem iP{l:M}(h:l.length < 2):Fq l=l:=by rw[Fq,dif_pos h]
theorem aey{l:M}(h:¬ l.length < 2):Fq l=Gw (Fq (l.take (l.length / 2))) (Fq (l.drop (l.length / 2))):=by rw[Fq,dif_neg h]
theorem xB:∀ (n:Nat) (l:M),l.length≤n→(Fq l).Perm l∧D8 (Fq l)
 |0,l,h=>by
  obtain rfl:l=[]:=Ku.1 (by omega);rw[iP (by simp)];exact⟨List.Perm.refl _,List.Pairwise.nil⟩
 |n+1,l,h=>by
  by_cases h2:l.length < 2
  ·rw[iP h2];refine⟨List.Perm.refl _,?_⟩
   match l,h2 with
   |[],_=>exact List.Pairwise.nil
   |[x],_=>exact Tq _ _
  ·rw[aey h2];obtain⟨p1,s1⟩:=xB n (l.take (l.length / 2)) (by rw[Bc];omega);obtain⟨p2,s2⟩:=xB n (l.drop (l.length / 2)) (by rw[CF];omega);refine⟨?_,vW _ _ _ (Ag _) s1 s2⟩;have:=(bJ _ (Fq (l.take (l.length / 2))) (Fq (l.drop (l.length / 2))) (Ag _)).trans (p1.append p2);rwa[Lb] at this
theorem oC(l:M):(Fq l).Perm l:=(xB _ l (Ag _)).1
theorem apj(l:M):D8 (Fq l):=(xB _ l (Ag _)).2
theorem iO(l:M):(Fq l).length=l.length:=(oC l).length_eq
theorem azQ(a b:M):(Gw a b).length=a.length+b.length:=by rw[(bJ _ a b (Ag _)).length_eq,AA]
theorem xP{l:M}(h:D8 l)(hn:(l.map (·.1)).Nodup):Up l:=by
 induction l with
 |nil=>exact Up.nil
 |cons x l ih=>
  obtain⟨h1,h2⟩:=Ky.1 h;obtain⟨n1,n2⟩:=JV.1 hn;refine Ky.2 ⟨fun z hz=>?_,ih h2 n2⟩;rcases bD (h1 z hz) with e|e
  ·exact e
  ·exact absurd (I6 (f:=(·.1)) hz) (by rw[←e];exact n1)
theorem apn{l:M}(h:Up l):Fq l=l:=
 bZ (xP (apj l) (((oC l).map (·.1)).nodup_iff.2 h.nodup)) h (fun _=>(oC l).mem_iff)
theorem azR{l:M}(h:Up l)(k v:T):Gw (del k l) [(k,v)]=put k v l:=by
 have hp:=bJ _ (del k l) [(k,v)] (Ag _);have hd:=h.del k;refine bZ (xP (vW _ _ _ (Ag _) (D8.RN hd) (Tq _ _)) ?_) (h.put k v) fun p=>?_
 ·rw[(hp.map (·.1)).nodup_iff,CQ,List.nodup_append];refine⟨hd.nodup,by simp,fun a ha b hb=>?_⟩;simp only[Ce,Kw,Fu] at hb;subst hb;obtain⟨q,hq,rfl⟩:=Bv.1 ha;exact(YZ.1 hq).2
 ·rw[hp.mem_iff,Uo h,Es,YZ,Fu];exact⟨fun e=>e.elim .inr .inl,fun e=>e.elim .inr .inl⟩
def Ef(l:M):List T:=Bi (l.map (·.1))
theorem aDz{a b c:List T}(ha:M7 a)(hb:M7 b)(hc:M7 c)(h:∀ x,x∈a↔x∈b∨x∈c)(hd:∀ x,x∈b→x∈c→False):a.length=b.length+c.length:=by
 have nd:∀ {l:List T},M7 l→l.Nodup:=fun hl=>by rw[List.nodup_iff_pairwise_ne];exact hl.imp fun h=>LM h
 rw[←AA];refine List.Perm.length_eq ?_;refine(List.perm_ext_iff_of_nodup (nd ha) ?_).2 fun x=>by rw[h x,Es]
 rw[List.nodup_append];exact⟨nd hb,nd hc,fun x hx y hy e=>hd x hx (by rw[e];exact hy)⟩
theorem aos(l:List T):(Bi l).length=l.length↔l.Nodup:=by
 constructor
 ·induction l with
  |nil=>exact fun _=>List.nodup_nil
  |cons x l ih=>
   intro h;have hle:=VC l;by_cases hx:x∈l
   ·have e:Bi (x :: l)=Bi l:=RU (Ko _) (Ko _) fun z=>by
     rw[El,El,Ch];exact⟨fun e=>e.elim (fun e=>by rw[e];exact hx) id,.inr⟩
    rw[e,BM] at h;omega
   ·have e:=aDz (Ko (x :: l)) (Tq _ x) (Ko l) (fun z=>by rw[El,El,Ch,Fu]) (fun z h1 h2=>hx (by rw[Fu] at h1;rw[←h1];exact(El _ _).1 h2));rw[h,BM,La] at e;exact JV.2 ⟨hx,ih (by omega)⟩
 ·intro h;refine List.Perm.length_eq ?_;refine(List.perm_ext_iff_of_nodup ?_ h).2 fun x=>El l x
  rw[List.nodup_iff_pairwise_ne];exact(Ko l).imp fun h=>LM h
theorem amq{l:M}(h:D8 l):(Ef l).length=l.length↔Up l:=by
 have:=aos (l.map (·.1));rw[Ca] at this;unfold Ef;rw[this];exact⟨xP h,Up.nodup⟩
def heads:M→List T
 |[]=>[]
 |x :: l=>x.1 :: heads (l.dropWhile fun y=>decide (y.1=x.1))
termination_by l=>l.length
decreasing_by
 have:=(List.dropWhile_sublist (l:=l) fun y=>decide (y.1=x.1)).length_le;simp only[BM];omega
theorem akc:heads []=[]:=by rw[heads]
theorem akb(x:T×T)(l:M):heads (x :: l)=x.1 :: heads (l.dropWhile fun y=>decide (y.1=x.1)):=by rw[heads]
theorem an3{α:Type}(p:α→Bool):∀ {l:List α} {x:α},x∈l.takeWhile p→p x=true
 |[],x,h=>by simp at h
 |y :: l,x,h=>by
  rw[List.takeWhile_cons] at h;split at h
  ·rename_i hy
   rcases Ch.1 h with rfl|h
   ·exact hy
   ·exact an3 p h
  ·simp at h
theorem akd:∀ (n:Nat) (l:M),l.length≤n→D8 l→M7 (heads l)∧∀ k,k∈heads l↔∃ p∈l,p.1=k
 |_,[],_,_=>by rw[akc];exact⟨List.Pairwise.nil,fun k=>by simp⟩
 |0,x :: l,h,_=>by simp at h
 |n+1,x :: l,h,hs=>by
  obtain⟨s1,s2⟩:=Ky.1 hs;rw[akb];have Rx:=List.dropWhile_sublist (l:=l) fun y=>decide (y.1=x.1)
  have hl:=Rx.length_le;obtain⟨i1,i2⟩:=akd n _ (by simp at h;omega) (s2.sublist Rx);have GI:∀ z∈l.dropWhile (fun y=>decide (y.1=x.1)),x.1 < z.1:=by
   intro z hz;have hne:l.dropWhile (fun y=>decide (y.1=x.1))≠[]:=List.ne_nil_of_mem hz;cases hd:l.dropWhile (fun y=>decide (y.1=x.1)) with
   |nil=>exact absurd hd hne
   |cons w r=>
    have hw:w.1≠x.1:=by
     have:=List.head_dropWhile_not (fun y:T×T=>decide (y.1=x.1)) hne;simp only[hd,List.head_cons] at this;simpa using this
    have YT:x.1 < w.1:=by
     rcases bD (s1 w (Rx.subset (by rw[hd];simp))) with e|e
     ·exact e
     ·exact absurd e.symm hw
    rw[hd] at hz;have hr:D8 (w :: r):=(by rw[←hd];exact s2.sublist Rx);rcases Ch.1 hz with rfl|hz
    ·exact YT
    ·exact azi YT ((Ky.1 hr).1 z hz)
  refine⟨Ky.2 ⟨fun k hk=>?_,i1⟩,fun k=>?_⟩
  ·obtain⟨p,hp,rfl⟩:=(i2 k).1 hk;exact GI p hp
  ·rw[Ch,i2 k];constructor
   ·rintro(rfl|⟨p,hp,rfl⟩)
    ·exact⟨x,by simp,rfl⟩
    ·exact⟨p,Fs _ (Rx.subset hp),rfl⟩
   ·rintro⟨p,hp,rfl⟩;rcases Ch.1 hp with rfl|hp
    ·exact .inl rfl
    ·by_cases e:p.1=x.1
     ·exact .inl e
     ·refine .inr ⟨p,?_,rfl⟩;rw[←List.takeWhile_append_dropWhile (p:=fun y:T×T=>decide (y.1=x.1)) (l:=l)] at hp;rcases Es.1 hp with hp|hp
      ·have:=an3 _ hp;exact absurd (by simpa using this) e
      ·exact hp
theorem ax2(l:M):heads (Fq l)=Ef l:=by
 obtain⟨h1,h2⟩:=akd _ (Fq l) (Ag _) (apj l);refine RU h1 (Ko _) fun k=>?_
 show _↔k∈Bi (l.map (·.1))
 rw[h2 k,El,Bv];exact⟨fun⟨p,hp,e⟩=>⟨p,(oC l).mem_iff.1 hp,e⟩,fun⟨p,hp,e⟩=>⟨p,(oC l).mem_iff.2 hp,e⟩⟩
def flat(l:M):List T:=l.flatMap fun p=>[p.1,p.2]
def Tn:List T→M
 |a :: b :: l=>(a,b) :: Tn l
 |_=>[]
theorem Y3(p:T×T)(l:M):flat (p :: l)=p.1 :: p.2 :: flat l:=rfl
theorem ab1(a b:M):flat (a++b)=flat a++flat b:=by unfold flat;rw[LV]
theorem sI(l:M):(flat l).length=2*l.length:=by
 induction l with
 |nil=>rfl
 |cons p l ih=>rw[Y3,BM,BM,ih,BM];omega
theorem xN:∀ l:M,Tn (flat l)=l
 |[]=>rfl
 |p :: l=>by rw[Y3,Tn,xN l]
theorem aim:∀ (n:Nat) (l:List T),l.length=2*n→flat (Tn l)=l∧(Tn l).length=n
 |0,l,h=>by
  obtain rfl:l=[]:=Ku.1 (by omega);exact⟨rfl,rfl⟩
 |n+1,l,h=>by
  match l,h with
  |a :: b :: l,h=>
   obtain⟨h1,h2⟩:=aim n l (by simp at h;omega);rw[Tn,Y3,h1,BM,h2];exact⟨rfl,rfl⟩
def FW(l:M):Option T:=if l.length≤65535 then(BL (flat l)).map (Ab.le 2 l.length++ ·) else none
def Ic(s:T):Option M:=if s.length < 2 then none else
 (EL (2*Ab.val (s.take 2)) (s.drop 2)).bind fun q=>if q.2=[]∧D8 (Tn q.1) then some (Tn q.1) else none
theorem aoi:∀ (l:List T) (a r:T),BL l=some a→EL l.length (a++r)=some (l,r)
 |[],a,r,h=>by
  simp only[BL,Cu] at h;subst h;rfl
 |s :: l,a,r,h=>by
  simp only[BL] at h;cases h1:Er s with
  |none=>rw[h1] at h;cases h
  |some x=>
   cases h2:BL l with
   |none=>rw[h1,h2] at h;cases h
   |some y=>
    rw[h1,h2] at h;simp only[CU,EZ,Cu] at h;subst h;unfold Er at h1;split at h1
    ·rename_i hs
     simp only[Cu] at h1;subst h1;have hv:Ab.val ((Ab.le 2 s.length++s++y++r).take 2)=s.length:=by
      rw[DJ,DJ,Jf (Ab.Cb _ _),Ab.xV];exact Nat.mod_eq_of_lt (by omega)
     have Kh:Ea (Ab.le 2 s.length++s++y++r)=some (s,2+s.length):=by
      unfold Ea;rw[hv,A9 (by simp[Ab.Cb]),Ae (by simp[Ab.Cb])];have:(Ab.le 2 s.length++s++y++r).take (2+s.length)=Ab.le 2 s.length++s:=by
       rw[DJ,Jf (by rw[AA,Ab.Cb])]
      rw[this,Np (Ab.Cb _ _)]
     show(Ea (Ab.le 2 s.length++s++y++r)).bind _=_
     rw[Kh];simp only[CU];have:(Ab.le 2 s.length++s++y++r).drop (2+s.length)=y++r:=by
      rw[DJ,Np (by rw[AA,Ab.Cb])]
     rw[this,aoi l y r h2];rfl
    ·cases h1
theorem sU{l:M}{s:T}(h:FW l=some s)(hs:D8 l):Ic s=some l:=by
 unfold FW at h;split at h
 ·rename_i hl
  cases h1:BL (flat l) with
  |none=>rw[h1] at h;cases h
  |some a=>
   rw[h1] at h;simp only[EZ,Cu] at h;subst h;have hv:Ab.val ((Ab.le 2 l.length++a).take 2)=l.length:=by
    rw[Jf (Ab.Cb _ _),Ab.xV];exact Nat.mod_eq_of_lt (by omega)
   unfold Ic;rw[hv,A9 (by simp[Ab.Cb]),Np (Ab.Cb _ _)];have:=aoi (flat l) a [] h1;rw[Eg,sI] at this;rw[this];simp only[CU];rw[xN,Ae ⟨trivial,hs⟩]
 ·cases h
theorem aiU{s:T}{l:M}(h:Ic s=some l):D8 l∧FW l=some s:=by
 unfold Ic at h;split at h
 ·cases h
 ·rename_i h2
  cases h1:EL (2*Ab.val (s.take 2)) (s.drop 2) with
  |none=>rw[h1] at h;cases h
  |some q=>
   rw[h1] at h;simp only[CU] at h;split at h
   ·rename_i hq
    simp only[Cu] at h;obtain⟨e1,a,e2,e3⟩:=aeb (l:=q.1) (r:=q.2) h1;obtain⟨f1,f2⟩:=aim _ q.1 e1;rw[hq.1,Eg] at e3;subst h;have hv:Ab.val (s.take 2) < 256 ^ 2:=by
     have:=Ab.Jw (s.take 2);rwa[Bc,Iq (by omega)] at this
    have e:Ab.le 2 (Ab.val (s.take 2))=s.take 2:=by
     have:=Ab.nJ (s.take 2);rwa[Bc,Iq (by omega)] at this
    refine⟨hq.2,?_⟩;unfold FW;rw[f2,Ae (by omega),f1,e2];simp only[EZ];rw[e,e3,Lb]
   ·cases h
def C9(l:M):Option T:=(FW l).bind fun s=>if s.length+4≤65535 then some (Ab.FN s) else none
def bQ(nm:T→T)(ok:T×T→Prop)[DecidablePred ok](name data:T):Option M:=
 if(Ab.EK data).2=0 then(Ic (Ab.EK data).1).bind fun l=>if l≠[]∧(Ef l).length=l.length∧∀ p∈l,nm p.1=name∧ok p then some l else none else none
theorem aB4{nm:T→T}{ok:T×T→Prop}[DecidablePred ok]{name data:T}{l:M}(h:bQ nm ok name data=some l):l≠[]∧Up l∧(∀ p∈l,nm p.1=name∧ok p)∧∃ s,FW l=some s∧data=Ab.FN s:=by
 unfold bQ at h;split at h
 ·rename_i h0
  cases h1:Ic (Ab.EK data).1 with
  |none=>rw[h1] at h;cases h
  |some k=>
   rw[h1] at h;simp only[CU] at h;split at h
   ·rename_i hk
    simp only[Cu] at h;subst h;obtain⟨g1,g2⟩:=aiU h1;exact⟨hk.1,(amq g1).1 hk.2.1,hk.2.2,_,g2,(Ab.adS h0).symm⟩
   ·cases h
 ·cases h
theorem aea{nm:T→T}{ok:T×T→Prop}[DecidablePred ok]{name d:T}{l:M}(h:C9 l=some d)(hl:l≠[])(hu:Up l)(hn:∀ p∈l,nm p.1=name∧ok p):bQ nm ok name d=some l:=by
 unfold C9 at h;cases h1:FW l with
 |none=>rw[h1] at h;cases h
 |some s=>
  rw[h1] at h;simp only[CU] at h;split at h
  ·simp only[Cu] at h;subst h;unfold bQ;rw[Ab.adT,Ae rfl];simp only;rw[sU h1 (D8.RN hu)];simp only[CU];rw[Ae ⟨hl,(amq (D8.RN hu)).2 hu,hn⟩]
  ·cases h
end Bu
namespace Kp
open Go.Lib Ah Aq Aw Bu
structure Kind where
 nm:T→T
 ours:T→Bool
 ok:T×T→Bool
structure Kind.Cg(K:Kind):Prop where
 Mt:∀ k,K.ours (K.nm k)=true
 len:∀ k,(K.nm k).length=17
section
variable {K:Kind}{A:M}
def Kind.Cm(K:Kind)(name data:T):Option M:=bQ K.nm (fun p=>K.ok p=true) name data
def fileOf(K:Kind)(A:M)(name:T):Option M:=(get A name).bind (K.Cm name)
def BU(K:Kind)(A:M)(k:T):Option T:=(fileOf K A (K.nm k)).bind fun l=>get l k
def EW(K:Kind)(A:M):M:=A.flatMap fun p=>if K.ours p.1=true then(K.Cm p.1 p.2).getD [] else[]
def Bn(K:Kind)(A:M):List T:=Ef (EW K A)
theorem Ng{name data:T}{l:M}(h:K.Cm name data=some l):l≠[]∧Up l∧(∀ p∈l,K.nm p.1=name∧K.ok p=true)∧∃ s,FW l=some s∧data=Ab.FN s:=aB4 h
theorem ic(hK:K.Cg)(hu:Up A)(k v:T):(k,v)∈EW K A↔BU K A k=some v:=by
 unfold EW;rw[NZ];constructor
 ·rintro⟨p,hp,hm⟩;split at hm
  ·cases hr:K.Cm p.1 p.2 with
   |none=>rw[hr] at hm;simp at hm
   |some l=>
    rw[hr] at hm;simp only[RZ] at hm;obtain⟨_,h2,h3,_⟩:=Ng hr;have hn:K.nm k=p.1:=(h3 _ hm).1;unfold BU fileOf;rw[hn,get_mem hu (show(p.1,p.2)∈A from hp)];simp only[CU];rw[hr];simp only[CU];exact get_mem h2 hm
  ·simp at hm
 ·intro h;unfold BU fileOf at h;cases hg:get A (K.nm k) with
  |none=>rw[hg] at h;cases h
  |some d=>
   rw[hg] at h;simp only[CU] at h;cases hr:K.Cm (K.nm k) d with
   |none=>rw[hr] at h;cases h
   |some l=>
    rw[hr] at h;simp only[CU] at h;refine⟨(K.nm k,d),get_some hg,?_⟩;rw[Ae (hK.Mt k),hr];exact get_some h
theorem RL(hK:K.Cg)(hu:Up A)(k:T):k∈Bn K A↔(BU K A k).isSome=true:=by
 unfold Bn Ef;rw[El,Bv];constructor
 ·rintro⟨p,hp,rfl⟩;rw[(ic hK hu p.1 p.2).1 hp];rfl
 ·intro h;obtain⟨v,hv⟩:=KD.1 h;exact⟨(k,v),(ic hK hu k v).2 hv,rfl⟩
theorem adu:M7 (Bn K A):=Ko _
theorem adt{A':M}(hK:K.Cg)(hu:Up A)(X5:Up A')(h:∀ k,(BU K A k).isSome=(BU K A' k).isSome):Bn K A=Bn K A':=
 RU adu adu fun k=>by rw[RL hK hu,RL hK X5,h k]
theorem aaV:∀ {A:M},Up A→((EW K A).map (·.1)).Nodup
 |[],_=>by simp[EW]
 |p :: A,h=>by
  obtain⟨h1,h2⟩:=Ky.1 h;have ih:=aaV h2;unfold EW at ih ⊢;rw[PL,CQ,List.nodup_append];refine⟨?_,ih,fun a ha b hb=>?_⟩
  ·split
   ·cases hr:K.Cm p.1 p.2 with
    |none=>simp
    |some l=>exact(Ng hr).2.1.nodup
   ·simp
  ·rintro rfl;obtain⟨x,hx,rfl⟩:=Bv.1 ha;obtain⟨y,hy,e⟩:=Bv.1 hb;have n1:K.nm x.1=p.1:=by
    split at hx
    ·cases hr:K.Cm p.1 p.2 with
     |none=>rw[hr] at hx;simp at hx
     |some l=>rw[hr] at hx;exact((Ng hr).2.2.1 _ hx).1
    ·simp at hx
   obtain⟨q,hq,hy⟩:=NZ.1 hy;have n2:K.nm y.1=q.1:=by
    split at hy
    ·cases hr:K.Cm q.1 q.2 with
     |none=>rw[hr] at hy;simp at hy
     |some l=>rw[hr] at hy;exact((Ng hr).2.2.1 _ hy).1
    ·simp at hy
   have:=h1 q hq;rw[←n1,←n2,e] at this;exact Td _ this
theorem YV(hu:Up A):(Bn K A).length=(EW K A).length:=by
 have:=(aos ((EW K A).map (·.1))).2 (aaV hu);rw[Ca] at this;exact this
def Jt(K:Kind)(A:M)(ks:List T)(name:T):M:=((fileOf K A name).getD []).filter fun p=>decide (p.1∉ks)
def UZ(K:Kind)(A:M)(ks:List T)(name:T):Am:=if Jt K A ks name=[] then⟨name,[],true⟩ else⟨name,(C9 (Jt K A ks name)).getD [],false⟩
def FE(K:Kind)(A:M)(ks:List T):List Am:=(Bi (ks.map K.nm)).map (UZ K A ks)
theorem kI(ks:List T)(name:T):(UZ K A ks name).name=name:=by unfold UZ;split<;>rfl
theorem apD{l k:M}(h:k.Sublist l):∀ {a:T},BL (flat l)=some a→∃ b,BL (flat k)=some b∧b.length≤a.length:=by
 induction h with
 |slnil=>exact fun {a} h=>⟨a,h,Ag _⟩
 | @cons k' l' x h ih=>
  intro a ha;rw[Y3] at ha;simp only[BL] at ha;cases h1:Er x.1 with
  |none=>rw[h1] at ha;cases ha
  |some u=>
   cases h2:Er x.2 with
   |none=>rw[h1,h2] at ha;cases ha
   |some v=>
    cases h3:BL (flat l') with
    |none=>rw[h1,h2,h3] at ha;cases ha
    |some c=>
     rw[h1,h2,h3] at ha;simp only[CU,EZ,Cu] at ha;subst ha;obtain⟨b,hb,hl⟩:=ih h3;exact⟨b,hb,by simp only[AA];omega⟩
 | @cons_cons k' l' x h ih=>
  intro a ha;rw[Y3] at ha ⊢;simp only[BL] at ha ⊢;cases h1:Er x.1 with
  |none=>rw[h1] at ha;cases ha
  |some u=>
   cases h2:Er x.2 with
   |none=>rw[h1,h2] at ha;cases ha
   |some v=>
    cases h3:BL (flat l') with
    |none=>rw[h1,h2,h3] at ha;cases ha
    |some c=>
     rw[h1,h2,h3] at ha;simp only[CU,EZ,Cu] at ha;subst ha;obtain⟨b,hb,hl⟩:=ih h3;rw[hb];simp only[CU,EZ];exact⟨_,rfl,by simp only[AA];omega⟩
theorem atg{l k:M}(h:k.Sublist l){s:T}(hs:FW l=some s)(hl:s.length+4≤65535):∃ d,C9 k=some d∧d.length≤s.length+4:=by
 unfold FW at hs;split at hs
 ·rename_i hn
  cases h1:BL (flat l) with
  |none=>rw[h1] at hs;cases hs
  |some a=>
   rw[h1] at hs;simp only[EZ,Cu] at hs;subst hs;obtain⟨b,hb,Ct⟩:=apD h h1;have E9:=h.length_le;rw[AA,Ab.Cb] at hl;unfold C9 FW;rw[Ae (by omega),hb];simp only[EZ,CU];rw[Ae (by rw[AA,Ab.Cb];omega)];exact⟨_,rfl,by rw[Ab.RP,AA,AA,Ab.Cb,Ab.Cb];omega⟩
 ·cases hs
def There(K:Kind)(A:M)(ks:List T):Prop:=∀ k∈ks,(BU K A k).isSome=true
theorem aif{ks:List T}(h:There K A ks){name:T}(hn:name∈Bi (ks.map K.nm)):∃ d l,get A name=some d∧K.Cm name d=some l∧fileOf K A name=some l:=by
 rw[El] at hn;obtain⟨k,hk,rfl⟩:=Bv.1 hn;have h1:=h k hk;unfold BU at h1;cases hf:fileOf K A (K.nm k) with
 |none=>rw[hf] at h1;simp at h1
 |some l=>
  have Yr:=hf;unfold fileOf at hf;cases hg:get A (K.nm k) with
  |none=>rw[hg] at hf;cases hf
  |some d=>
   rw[hg] at hf;exact⟨d,l,rfl,hf,rfl⟩
theorem eO(hg:Ah.Good A){ks:List T}(h:There K A ks){name:T}(hn:name∈Bi (ks.map K.nm)):
  ∃ d l,get A name=some d∧K.Cm name d=some l∧fileOf K A name=some l∧(UZ K A ks name).data.length≤d.length∧
   ((l.filter (fun p=>decide (p.1∉ks))=[]∧UZ K A ks name=⟨name,[],true⟩)∨
    ∃ s,l.filter (fun p=>decide (p.1∉ks))≠[]∧C9 (l.filter fun p=>decide (p.1∉ks))=some s∧UZ K A ks name=⟨name,s,false⟩∧s.length≤65535):=by
 obtain⟨d,l,h1,h2,h3⟩:=aif h hn;obtain⟨_,hu,IJ,s,hs,hd⟩:=Ng h2;have Pn:d.length≤65535:=by
  have:=hg _ (get_some h1);unfold EX at this;simp at this;exact this.2.2
 have CS:s.length+4=d.length:=by rw[hd,Ab.RP]
 obtain⟨c,hc,BQ⟩:=atg (List.filter_sublist (p:=fun p:T×T=>decide (p.1∉ks)) (l:=l)) hs (by omega);refine⟨d,l,h1,h2,h3,?_,?_⟩
 ·unfold UZ Jt;rw[h3];simp only[RZ];split
  ·exact AV _
  ·rw[hc];simp only[RZ];omega
 ·unfold UZ Jt;rw[h3];simp only[RZ];split
  ·rename_i e
   exact .inl ⟨e,rfl⟩
  ·rename_i e
   exact .inr ⟨c,e,hc,by rw[hc];rfl,by omega⟩
theorem aDK{F:M}(hu:Up F)(c:Am){d:T}(hg:get F c.name=some d)(hl:c.data.length≤d.length):used (Am.on F c)≤used F:=by
 have hm:=get_some hg;have uu:(del c.name F |>.map cost).sum+cost (c.name,d)=(F.map cost).sum:=by
  have e:(put c.name d F)=F:=bZ (hu.put _ _) hu fun p=>by
   rw[Uo hu];constructor
   ·rintro(rfl|⟨h,_⟩)
    ·exact hm
    ·exact h
   ·intro hp;by_cases e:p.1=c.name
    ·refine .inl ?_;have h1:=get_mem hu (show(p.1,p.2)∈F from hp);rw[e,hg] at h1;injection h1 with h1
     rw[←e,h1]
    ·exact .inr ⟨hp,e⟩
  have:=((bP (v:=d) hu c.name).map cost).sum_nat;rw[e,Ce,DY] at this;omega
 unfold Am.on used;split
 ·omega
 ·have hp:=((bP (v:=c.data) hu c.name).map cost).sum_nat;rw[hp,Ce,DY];unfold cost at uu ⊢;simp only at uu ⊢;omega
theorem xQ:∀ {l:List Am} {F:M},Up F→(l.map (·.name)).Nodup→(∀ c∈l,∃ d,get F c.name=some d∧c.data.length≤d.length)→used (made F l)≤used F
 |[],F,_,_,_=>Ag _
 |c :: l,F,hu,hn,h=>by
  obtain⟨n1,n2⟩:=JV.1 hn;obtain⟨d,h1,h2⟩:=h c (by simp);refine Ay (xQ (F:=Am.on F c) (hu.on c) n2 fun x hx=>?_) (aDK hu c h1 h2);obtain⟨e,h3,h4⟩:=h x (Fs _ hx);have hne:x.name≠c.name:=fun e=>n1 (show c.name∈l.map (·.name) from by rw[←e];exact I6 hx)
  refine⟨e,?_,h4⟩;unfold Am.on;split
  ·rw[kR hu,A9 hne,h3]
  ·rw[get_put hu,A9 hne,h3]
theorem Wy(ks:List T):(FE K A ks).map (·.name)=Bi (ks.map K.nm):=by
 unfold FE;rw[Kv]
 conv=>rhs;rw[←List.map_id (Bi (ks.map K.nm))]
 exact OI fun x _=>kI ks x
theorem Xm(l:List T):(Bi l).Nodup:=by
 rw[List.nodup_iff_pairwise_ne];exact(Ko l).imp fun h=>LM h
theorem ahV(hK:K.Cg){n:Nat}(hu:Up A)(hg:Ah.Good A)(hr:used A≤Cy n){ks:List T}(h:There K A ks):FB n A (FE K A ks)=0∧Ep n A (FE K A ks)=made A (FE K A ks)∧used (made A (FE K A ks))≤used A∧(∀ c∈FE K A ks,c.may=true):=by
 have N9:∀ c∈FE K A ks,c.may=true:=by
  intro c hc;unfold FE at hc;obtain⟨name,hn,rfl⟩:=Bv.1 hc;obtain⟨d,l,h1,h2,h3,h4,h5⟩:=eO hg h hn;have hl:name.length=17:=by
   rw[El] at hn;obtain⟨k,_,rfl⟩:=Bv.1 hn;exact hK.len k
  have hne:name≠[]:=fun e=>by rw[e] at hl;cases hl
  rcases h5 with⟨_,e⟩|⟨s,_,_,e,CS⟩
  ·rw[e];unfold Am.may EX;simp[hne,hl]
  ·rw[e];unfold Am.may EX;simp[hne,hl,CS]
 have FL:used (made A (FE K A ks))≤used A:=xQ hu (by rw[Wy];exact Xm _) fun c hc=>by
  unfold FE at hc;obtain⟨name,hn,rfl⟩:=Bv.1 hc;obtain⟨d,l,h1,h2,h3,h4,h5⟩:=eO hg h hn;exact⟨d,by rw[kI];exact h1,h4⟩
 have hall:(FE K A ks).all Am.may=true:=by rw[Nl];exact N9
 refine⟨?_,?_,FL,N9⟩
 ·unfold FB;rw[hall,A9 (by simp),A9 (by omega)]
 ·unfold Ep;rw[Ae ⟨hall,by omega⟩]
theorem auA{l:List Am}(hn:(l.map (·.name)).Nodup){c:Am}(hc:c∈l):l.reverse.find? (fun x=>x.name == c.name)=some c:=by
 have hr:(l.reverse.map (·.name)).Nodup:=by rw[List.map_reverse];exact(List.reverse_perm _).nodup_iff.2 hn
 have Pm:c∈l.reverse:=List.mem_reverse.2 hc;generalize l.reverse=r at*
 induction r with
 |nil=>simp at Pm
 |cons x r ih=>
  obtain⟨n1,n2⟩:=JV.1 hr;rcases Ch.1 Pm with e|e
  ·subst e;simp
  ·have:x.name≠c.name:=fun e'=>n1 (show x.name∈r.map (·.name) from by rw[e'];exact I6 e)
   rw[List.find?_cons_of_neg (by simpa using this)];exact ih n2 e
theorem abf{F:M}(hu:Up F){l:List Am}(hn:(l.map (·.name)).Nodup){c:Am}(hc:c∈l):get (made F l) c.name=if c.gone then none else some c.data:=by
 rw[aiX hu,auA hn hc]
theorem kS{F:M}(hu:Up F){l:List Am}{k:T}(h:k∉l.map (·.name)):get (made F l) k=get F k:=by
 have:l.reverse.find? (fun c=>c.name == k)=none:=by
  rw[List.find?_eq_none];intro x hx;have:x.name≠k:=fun e=>h (by rw[←e];exact I6 (List.mem_reverse.1 hx))
  simpa using this
 rw[aiX hu,this]
theorem get_filter{l:M}(hu:Up l)(p:T×T→Bool)(k:T):get (l.filter p) k=(get l k).bind fun v=>if p (k,v) then some v else none:=by
 cases hg:get l k with
 |none=>
  rw[get_none] at hg;exact get_none.2 fun x hx=>hg x ((G9.1 hx).1)
 |some v=>
  have hm:=get_some hg;simp only[CU];split
  ·rename_i hp
   exact get_mem (hu.filter _) (G9.2 ⟨hm,hp⟩)
  ·rename_i hp
   refine get_none.2 fun x hx e=>?_
   obtain⟨h1,h2⟩:=G9.1 hx;have:=get_mem hu (show(x.1,x.2)∈l from h1);rw[e,hg] at this;injection this with this
   rw[this,←e] at hp;exact hp h2
theorem aid{l:List Am}(hu:Up A){name:T}(h:name∉l.map (·.name)):fileOf K (made A l) name=fileOf K A name:=by
 unfold fileOf;rw[kS hu h]
theorem atS(hu:Up A)(hg:Ah.Good A){ks:List T}(h:There K A ks)(k:T):BU K (made A (FE K A ks)) k=if k∈ks then none else BU K A k:=by
 have gD:((FE K A ks).map (·.name)).Nodup:=by rw[Wy];exact Xm _
 by_cases hn:K.nm k∈Bi (ks.map K.nm)
 ·obtain⟨d,l,h1,h2,h3,h4,h5⟩:=eO hg h hn;obtain⟨_,Ij,IJ,_⟩:=Ng h2;have KU:UZ K A ks (K.nm k)∈FE K A ks:=I6 hn;have JI:=abf hu gD KU;rw[kI] at JI;have hv:BU K A k=get l k:=by unfold BU;rw[h3];rfl
  rw[hv];have akp:get (l.filter fun p=>decide (p.1∉ks)) k=if k∈ks then none else get l k:=by
   rw[get_filter Ij];cases get l k with
   |none=>simp
   |some v=>by_cases e:k∈ks<;>simp[e]
  rw[←akp];rcases h5 with⟨e1,e2⟩|⟨s,e0,e1,e2,_⟩
  ·rw[e2] at JI;unfold BU fileOf;rw[JI,e1];rfl
  ·rw[e2] at JI;simp only[Bool.false_eq_true,if_false] at JI;unfold BU fileOf;rw[JI];simp only[CU];rw[show K.Cm (K.nm k) s=some (l.filter fun p=>decide (p.1∉ks)) from aea e1 e0 (Ij.filter _) fun p hp=>IJ p ((G9.1 hp).1)];rfl
 ·have hk:k∉ks:=fun e=>hn ((El _ _).2 (I6 e))
  rw[A9 hk];unfold BU;rw[aid hu (by rw[Wy];exact hn)]
theorem atQ{K':Kind}(hK:K.Cg)(l5:K'.Cg)(hd:∀ x,K.ours x=true→K'.ours x=true→False)(hu:Up A)(ks:List T)(k:T):BU K' (made A (FE K A ks)) k=BU K' A k:=by
 unfold BU;rw[aid hu];rw[Wy,El];intro hm;obtain⟨j,_,e⟩:=Bv.1 hm;exact hd _ (hK.Mt j) (by rw[e];exact l5.Mt k)
end
end Kp
namespace Bz
open Go.Lib Ah Aq Aw Bu Kp
structure K8 where
 m:Kind
 d:Kind
structure K8.Cg(P:K8):Prop where
 m:P.m.Cg
 d:P.d.Cg
 apart:∀ x,P.m.ours x=true→P.d.ours x=true→False
structure May(n:Nat)(A:M):Prop where
 up:Up A
 good:Ah.Good A
 room:used A≤Cy n
section
variable {P:K8}{n:Nat}{A:M}{roots:List T}
def mV(P:K8)(A:M)(k:T):Option T:=BU P.m A k
def dV(P:K8)(A:M)(r:T):Option T:=BU P.d A r
def amP(P:K8)(A:M):List T:=Bn P.m A
def Wx(P:K8)(A:M):List T:=Bn P.d A
def JR(P:K8)(A:M)(r:T):List T:=((dV P A r).bind Dv).getD []
def Used(P:K8)(A:M)(k:T):Prop:=∃ r∈Wx P A,k∈JR P A r
instance (P:K8) (A:M) (k:T):Decidable (Used P A k):=inferInstanceAs (Decidable (∃ r∈Wx P A,_))
def RI(P:K8)(A:M):List T:=(amP P A).filter fun k=>decide (¬ Used P A k)
theorem azr{K:Kind}(hK:K.Cg)(h:May n A){ks:List T}(ht:There K A ks):May n (made A (FE K A ks)):=by
 obtain⟨_,_,h3,h4⟩:=ahV hK h.up h.good h.room ht;exact⟨h.up.made _,h.good.made h.up h4,Ay h3 h.room⟩
theorem an2(hP:P.Cg)(h:May n A)(r:T):r∈Wx P A↔(dV P A r).isSome=true:=RL hP.d h.up r
theorem aeW{A':M}{r:T}(h:dV P A' r=dV P A r):JR P A' r=JR P A r:=by unfold JR;rw[h]
end
end Bz
namespace Ew
open Go.Lib Ah Aq Aw Bu Kp Bz
section
variable {K:Kind}{P:K8}{n:Nat}{A:M}
def CO(K:Kind)(A:M):List T:=(A.filter fun p=>K.ours p.1 && (K.Cm p.1 p.2).isNone).map (·.1)
theorem Jd(hu:Up A)(name:T):name∈CO K A↔K.ours name=true∧∃ d,get A name=some d∧K.Cm name d=none:=by
 unfold CO;rw[Bv];constructor
 ·rintro⟨p,hp,rfl⟩;obtain⟨h1,h2⟩:=G9.1 hp;simp only[Bool.and_eq_true,Option.isNone_iff_eq_none] at h2;exact⟨h2.1,p.2,get_mem hu (show(p.1,p.2)∈A from h1),h2.2⟩
 ·rintro⟨h1,d,h2,h3⟩;exact⟨(name,d),G9.2 ⟨get_some h2,by simp[h1,h3]⟩,rfl⟩
def MH(P:K8)(A:M):List (T×T):=(Wx P A).flatMap fun r=>((JR P A r).filter fun k=>(mV P A k).isNone).map fun k=>(r,k)
theorem nN(r k:T):(r,k)∈MH P A↔r∈Wx P A∧k∈JR P A r∧mV P A k=none:=by
 unfold MH;rw[NZ];constructor
 ·rintro⟨x,hx,hm⟩;obtain⟨y,hy,e⟩:=Bv.1 hm;obtain⟨h1,h2⟩:=G9.1 hy;obtain⟨rfl,rfl⟩:=Prod.mk.inj e;exact⟨hx,h1,by simpa using h2⟩
 ·rintro⟨h1,h2,h3⟩;exact⟨r,h1,Bv.2 ⟨k,G9.2 ⟨h2,by simp[h3]⟩,rfl⟩⟩
def V8(P:K8)(A:M):List T:=CO P.m A++CO P.d A
def Hm(P:K8)(A:M):List Am:=(V8 P A).map fun x=>⟨x,[],true⟩
def KZ(P:K8)(A:M):M:=made A (Hm P A)
def MB(P:K8)(A:M):List T:=Bi ((MH P A).map (·.1))
def Je(P:K8)(A:M):M:=made (KZ P A) (FE P.d (KZ P A) (MB P A))
theorem xA{α:Type}{p:List α→Prop}(h0:p [])(h1:∀ l x,p l→p (l++[x]))(l:List α):p l:=by
 have key:∀ k:List α,p k.reverse:=fun k=>by
  induction k with
  |nil=>exact h0
  |cons x k ih=>rw[List.reverse_cons];exact h1 _ _ ih
 have:=key l.reverse;rwa[List.reverse_reverse] at this
theorem avy(hu:Up A)(l:List T)(x:T):get (made A (l.map fun x=>(⟨x,[],true⟩:Am))) x=if x∈l then none else get A x:=by
 induction l using xA with
 |h0=>rfl
 |h1 l y ih=>
  rw[CQ,List.map_singleton,vM]
  show get (del y _) x=_
  rw[kR (Up.made hu _),ih];by_cases e:x=y
  ·rw[Ae e,Ae (by simp[e])]
  ·rw[A9 e];by_cases h:x∈l
   ·rw[Ae h,Ae (by simp[h])]
   ·rw[A9 h,A9 (by simp[h,e])]
theorem abg(hu:Up A)(x:T):get (KZ P A) x=if x∈V8 P A then none else get A x:=avy hu _ x
theorem vR(hu:Up A):Up (KZ P A):=Up.made hu _
theorem auq(hP:P.Cg)(hu:Up A){K:Kind}(hK:K=P.m∨K=P.d){x:T}(hx:K.ours x=true):fileOf K (KZ P A) x=fileOf K A x:=by
 unfold fileOf;rw[abg hu];split
 ·rename_i h
  rcases Es.1 h with h|h
  ·obtain⟨h1,d,h2,h3⟩:=(Jd hu x).1 h;rcases hK with rfl|rfl
   ·rw[h2];exact h3.symm
   ·exact absurd hx (by intro e;exact hP.apart x h1 e)
  ·obtain⟨h1,d,h2,h3⟩:=(Jd hu x).1 h;rcases hK with rfl|rfl
   ·exact absurd h1 (by intro e;exact hP.apart x hx e)
   ·rw[h2];exact h3.symm
 ·rfl
theorem aeY(hP:P.Cg)(hu:Up A){K:Kind}(hK:K=P.m∨K=P.d)(k:T):BU K (KZ P A) k=BU K A k:=by
 have hf:K.Cg:=by rcases hK with rfl|rfl;exact hP.m;exact hP.d
 unfold BU;rw[auq hP hu hK (hf.Mt k)]
theorem asy(hu:Up A){K:Kind}(hK:K=P.m∨K=P.d):CO K (KZ P A)=[]:=by
 refine VI.2 fun x hx=>?_
 obtain⟨h1,d,h2,h3⟩:=(Jd (vR hu) x).1 hx;rw[abg hu] at h2;split at h2
 ·cases h2
 ·rename_i h
  refine h (Es.2 ?_);rcases hK with rfl|rfl
  ·exact .inl ((Jd hu x).2 ⟨h1,d,h2,h3⟩)
  ·exact .inr ((Jd hu x).2 ⟨h1,d,h2,h3⟩)
theorem xg(hP:P.Cg)(hu:Up A):There P.d (KZ P A) (MB P A):=fun r hr=>by
 unfold MB at hr;rw[El] at hr;obtain⟨p,hp,rfl⟩:=Bv.1 hr;obtain⟨h1,_⟩:=(nN p.1 p.2).1 hp;rw[aeY hP hu (.inr rfl)];exact(RL hP.d hu p.1).1 h1
theorem asx(hu:Up A)(hg:Ah.Good A){ks:List T}(ht:There K A ks)(name:T):name∈CO K (made A (FE K A ks))↔name∈CO K A:=by
 have ED:Up (made A (FE K A ks)):=Up.made hu _;have gD:((FE K A ks).map (·.name)).Nodup:=by rw[Wy];exact Xm _
 by_cases hn:name∈Bi (ks.map K.nm)
 ·obtain⟨d,l,h1,h2,h3,h4,h5⟩:=eO hg ht hn;obtain⟨_,Ij,IJ,_⟩:=Ng h2;have hb:name∉CO K A:=fun h=>by
   obtain⟨_,d',e1,e2⟩:=(Jd hu name).1 h;rw[h1] at e1;cases e1;rw[h2] at e2;cases e2
  have KU:UZ K A ks name∈FE K A ks:=I6 hn;have JI:=abf hu gD KU;rw[kI] at JI;refine⟨fun h=>?_,fun h=>absurd h hb⟩;obtain⟨_,d',e1,e2⟩:=(Jd ED name).1 h;rcases h5 with⟨x1,x2⟩|⟨s,x0,x1,x2,_⟩
  ·rw[x2] at JI;rw[JI] at e1;cases e1
  ·rw[x2] at JI;simp only[Bool.false_eq_true,if_false] at JI;rw[JI] at e1;have e3:d'=s:=by injection e1 with e1;exact e1.symm
   rw[e3] at e2;rw[show K.Cm name s=some (l.filter fun p=>decide (p.1∉ks)) from aea x1 x0 (Ij.filter _) fun p hp=>IJ p ((G9.1 hp).1)] at e2;cases e2
 ·have Ec:get (made A (FE K A ks)) name=get A name:=kS hu (by rw[Wy];exact hn);rw[Jd ED,Jd hu,Ec]
theorem asz{K':Kind}(hK:K.Cg)(hd:∀ x,K.ours x=true→K'.ours x=true→False)(hu:Up A)(ks:List T)(name:T):name∈CO K' (made A (FE K A ks))↔name∈CO K' A:=by
 rw[Jd (Up.made hu _),Jd hu];by_cases ho:K'.ours name=true
 ·rw[kS hu];rw[Wy,El];intro hm;obtain⟨j,_,e⟩:=Bv.1 hm;exact hd _ (hK.Mt j) (by rw[e];exact ho)
 ·simp[ho]
theorem ry(hu:Up A):(CO K A).Nodup:=by
 unfold CO;have h:List.Pairwise (fun a b:T×T=>a.1 < b.1) (A.filter fun p=>K.ours p.1 && (K.Cm p.1 p.2).isNone):=(show List.Pairwise (fun a b:T×T=>a.1 < b.1) A from hu).filter _;exact List.nodup_iff_pairwise_ne.2 (List.pairwise_map.2 (h.imp fun {a b} hab e=>LM hab e))
theorem aiY(hP:P.Cg)(hu:Up A):(V8 P A).Nodup:=by
 unfold V8;refine List.nodup_append.2 ⟨ry hu,ry hu,fun x hx y hy e=>?_⟩;subst e;exact hP.apart x ((Jd hu x).1 hx).1 ((Jd hu x).1 hy).1
theorem abj(hu:Up A){x:T}(hx:x∈V8 P A):∃ d,get A x=some d:=by
 rcases Es.1 hx with h|h
 ·obtain⟨_,d,h2,_⟩:=(Jd hu x).1 h;exact⟨d,h2⟩
 ·obtain⟨_,d,h2,_⟩:=(Jd hu x).1 h;exact⟨d,h2⟩
theorem abl(hP:P.Cg)(h:Bz.May n A):FB n A (Hm P A)=0∧Ep n A (Hm P A)=KZ P A∧used (KZ P A)≤used A∧∀ c∈Hm P A,c.may=true:=by
 have N9:∀ c∈Hm P A,c.may=true:=fun c hc=>by
  unfold Hm at hc;obtain⟨x,hx,rfl⟩:=Bv.1 hc;obtain⟨d,hd⟩:=abj h.up hx;have hg:=h.good _ (get_some hd);unfold EX at hg;unfold Am.may EX;simp only[decide_eq_true_eq] at hg;simp[hg.1,hg.2.1]
 have hn:(Hm P A).map (·.name)=V8 P A:=by
  unfold Hm;rw[Kv];exact List.map_id _
 have FL:used (KZ P A)≤used A:=xQ h.up (by rw[hn];exact aiY hP h.up) fun c hc=>by
  unfold Hm at hc;obtain⟨x,hx,rfl⟩:=Bv.1 hc;obtain⟨d,hd⟩:=abj h.up hx;exact⟨d,hd,AV _⟩
 have hall:(Hm P A).all Am.may=true:=by rw[Nl];exact N9
 have hr:=h.room;refine⟨?_,?_,FL,N9⟩
 ·unfold FB;rw[hall,A9 (by simp),A9 (by unfold KZ at FL;omega)]
 ·unfold Ep;rw[Ae ⟨hall,by unfold KZ at FL;omega⟩];rfl
theorem adK(hP:P.Cg)(h:Bz.May n A):Bz.May n (KZ P A):=by
 obtain⟨_,_,h3,h4⟩:=abl hP h;exact⟨vR h.up,h.good.made h.up h4,Ay h3 h.room⟩
theorem vS(hP:P.Cg)(h:Bz.May n A):Bz.May n (Je P A):=azr hP.d (adK hP h) (xg hP h.up)
theorem adL(hP:P.Cg)(h:Bz.May n A)(k:T):mV P (Je P A) k=mV P A k:=by
 have h1:=atQ (K:=P.d) (K':=P.m) hP.d hP.m (fun x h1 h2=>hP.apart x h2 h1) (vR h.up) (MB P A) k (A:=KZ P A);exact h1.trans (aeY hP h.up (.inl rfl) k)
theorem an4(hP:P.Cg)(h:Bz.May n A)(r:T):dV P (Je P A) r=if r∈MB P A then none else dV P A r:=by
 have hm:=adK hP h;have h1:=atS hm.up hm.good (xg hP h.up) r;have h2:=aeY hP h.up (K:=P.d) (.inr rfl) r;rw[h2] at h1;exact h1
theorem kC(hP:P.Cg)(h:Bz.May n A){K:Kind}(hK:K=P.m∨K=P.d):CO K (Je P A)=[]:=by
 have hm:=adK hP h;refine VI.2 fun x hx=>?_
 have Ee:x∈CO K (KZ P A):=by
  rcases hK with rfl|rfl
  ·exact(asz hP.d (fun x h1 h2=>hP.apart x h2 h1) hm.up (MB P A) x).1 hx
  ·exact(asx hm.up hm.good (xg hP h.up) x).1 hx
 rw[asy h.up hK] at Ee;cases Ee
theorem aEa(hP:P.Cg)(h:Bz.May n A):MH P (Je P A)=[]:=by
 have KT:=vS hP h;refine VI.2 fun p hp=>?_
 obtain⟨h1,h2,h3⟩:=(nN p.1 p.2).1 hp;have hd:=an4 hP h p.1;have ZY:=(an2 hP KT p.1).1 h1;rw[hd] at ZY;split at ZY
 ·cases ZY
 ·rename_i hn
  refine hn ?_;unfold MB;rw[El];refine Bv.2 ⟨p,(nN p.1 p.2).2 ⟨(an2 hP h p.1).2 ZY,?_,by rw[←adL hP h];exact h3⟩,rfl⟩;rw[←aeW (A':=Je P A) (by rw[hd,A9 hn])];exact h2
def TM(P:K8)(A:M):Prop:=CO P.m A=[]∧CO P.d A=[]∧MH P A=[]
theorem an5(hP:P.Cg)(h:Bz.May n A):TM P (Je P A):=⟨kC hP h (.inl rfl),kC hP h (.inr rfl),aEa hP h⟩
def LA(P:K8)(A:M):List (Nat×T×T):=
 ((CO P.m A).map fun x=>(1,x,[]))++((CO P.d A).map fun x=>(2,x,[]))++((MH P A).map fun p=>(3,p.1,p.2))++((RI P A).map fun k=>(4,[],k))
theorem aCv:TM P A↔∀ b∈LA P A,b.1=4:=by
 unfold TM LA;constructor
 ·rintro⟨h1,h2,h3⟩ b hb;rw[h1,h2,h3] at hb;simp only[Kw,EE,Bv] at hb;obtain⟨k,_,rfl⟩:=hb;rfl
 ·intro h;refine⟨VI.2 fun x hx=>?_,VI.2 fun x hx=>?_,VI.2 fun x hx=>?_⟩
  ·have:=h (1,x,[]) (by simp;exact hx);cases this
  ·have:=h (2,x,[]) (by simp;exact hx);cases this
  ·have:=h (3,x.1,x.2) (by simp;exact hx);cases this
end
end Ew
namespace Hex
open Go.Lib Ah Aq Aw Bu Kp Bz
def Gg(k:Nat):UInt8:=UInt8.ofNat (if k < 10 then 48+k else 87+k)
def Eu(s:T):T:=s.flatMap fun b=>[Gg (b.toNat / 16),Gg (b.toNat % 16)]
def val(c:UInt8):Option Nat:=if 48≤c.toNat∧c.toNat≤57 then some (c.toNat -48) else if 97≤c.toNat∧c.toNat≤102 then some (c.toNat -87) else none
def Fb:T→Option T
 |[]=>some []
 |a :: b :: s=>match val a,val b with
  |some x,some y=>(Fb s).map (UInt8.ofNat (16*x+y) :: ·)
  |_,_=>none
 |_=>none
theorem ahN{k:Nat}(h:k < 16):(Gg k).toNat=if k < 10 then 48+k else 87+k:=by
 unfold Gg;have:∀ n,n < 256→(UInt8.ofNat n).toNat=n:=fun n hn=>by rw[UInt8.toNat_ofNat'];exact Nat.mod_eq_of_lt hn
 split
 ·exact this _ (by omega)
 ·exact this _ (by omega)
theorem aq2{k:Nat}(h:k < 16):val (Gg k)=some k:=by
 unfold val;rw[ahN h];by_cases e:k < 10
 ·rw[Ae e,Ae ⟨by omega,by omega⟩];congr 1;omega
 ·rw[A9 e,A9 (by omega),Ae ⟨by omega,by omega⟩];congr 1;omega
theorem uA(b:UInt8)(s:T):Eu (b :: s)=Gg (b.toNat / 16) :: Gg (b.toNat % 16) :: Eu s:=rfl
theorem akk(a b:T):Eu (a++b)=Eu a++Eu b:=by unfold Eu;rw[LV]
theorem U2(s:T):(Eu s).length=2*s.length:=by
 induction s with
 |nil=>rfl
 |cons b s ih=>rw[uA,BM,BM,ih,BM];omega
theorem aeQ:∀ s:T,Fb (Eu s)=some s
 |[]=>rfl
 |b :: s=>by
  have hb:=b.toNat_lt;rw[uA,Fb,aq2 (by omega),aq2 (by omega)];simp only;rw[aeQ s,EZ]
  congr 2
  have:16*(b.toNat / 16)+b.toNat % 16=b.toNat:=by omega
  rw[this];exact UInt8.ofNat_toNat
def NV(c:UInt8)(name:T):Bool:=name.length == 17 && (name.head? == some c) && (Fb (name.drop 1)).isSome
def nT(c:UInt8)(k:T):T:=c :: Eu ((BH.EY k).take 8)
theorem adO(c:UInt8)(k:T):(nT c k).length=17:=by
 unfold nT;rw[BM,U2,Bc,BH.Uu];rfl
theorem anv(c:UInt8)(k:T):NV c (nT c k)=true:=by
 unfold NV;rw[adO]
 show(true && (some c == some c) && (Fb (Eu ((BH.EY k).take 8))).isSome)=true
 rw[aeQ];simp
def rowOk(p:T×T):Bool:=match Dv p.2 with
 |none=>false
 |some l=>decide (Bi l=l)
def Ad:Kind:=⟨nT 109,NV 109,fun _=>true⟩
def Aa:Kind:=⟨nT 117,NV 117,rowOk⟩
def both:Bz.K8:=⟨Ad,Aa⟩
theorem Jc:Ad.Cg:=⟨anv 109,adO 109⟩
theorem Gf:Aa.Cg:=⟨anv 117,adO 117⟩
theorem J4:both.Cg:=⟨Jc,Gf,fun x h1 h2=>by
 have a:NV 109 x=true:=h1;have b:NV 117 x=true:=h2;unfold NV at a b;simp only[Bool.and_eq_true,beq_iff_eq] at a b;have:=a.1.2.symm.trans b.1.2;simp at this⟩
end Hex
namespace Ew
open Go.Lib Ah Aq Aw Bu Kp Bz Hex
abbrev Br:=Nat×T×T
theorem ahO{c:UInt8}{x:Nat}(h:val c=some x):x < 16∧Gg x=c:=by
 unfold val at h;have hc:=c.toNat_lt;split at h
 ·injection h with h
  subst h;refine⟨by omega,?_⟩;unfold Gg;rw[Ae (by omega)];apply UInt8.toNat_inj.1;rw[UInt8.toNat_ofNat',Nat.mod_eq_of_lt (by omega)];omega
 ·split at h
  ·injection h with h
   subst h;refine⟨by omega,?_⟩;unfold Gg;rw[A9 (by omega)];apply UInt8.toNat_inj.1;rw[UInt8.toNat_ofNat',Nat.mod_eq_of_lt (by omega)];omega
  ·cases h
theorem ac4:∀ (s t:T),Fb s=some t→Eu t=s
 |[],t,h=>by
  simp only[Fb,Cu] at h;subst h;rfl
 |[a],t,h=>by simp[Fb] at h
 |a :: b :: s,t,h=>by
  rw[Fb] at h;cases ha:val a with
  |none=>rw[ha] at h;simp at h
  |some x=>
   cases hb:val b with
   |none=>rw[ha,hb] at h;simp at h
   |some y=>
    rw[ha,hb] at h;simp only[Tt] at h;obtain⟨u,hu,rfl⟩:=h;obtain⟨hx,ex⟩:=ahO ha;obtain⟨hy,ey⟩:=ahO hb;have e:(UInt8.ofNat (16*x+y)).toNat=16*x+y:=(by rw[UInt8.toNat_ofNat'];exact Nat.mod_eq_of_lt (by omega));rw[uA,e,ac4 s u hu,show(16*x+y) / 16=x by omega,show(16*x+y) % 16=y by omega,ex,ey]
def En(s:T):T:=if s=[] then[45] else Eu s
def Kr(s:T):Option T:=if s=[45] then some [] else if s=[] then none else Fb s
def word:Nat→T
 |1=>[109,101,109,111]
 |2=>[117,115,101]
 |3=>[119,97,110,116]
 |4=>[108,111,111,115,101]
 |_=>[63]
def Ms(b:Br):T:=word b.1++[32]++En b.2.1++[32]++En b.2.2
def Oc(st:List T×T)(c:UInt8):List T×T:=if c=32 then(st.1++[st.2],[]) else(st.1,st.2++[c])
def Ib(s:T):List T×T:=s.foldl Oc ([],[])
def parts(s:T):List T:=(Ib s).1++[(Ib s).2]
theorem rz(s:T)(c:UInt8):Ib (s++[c])=Oc (Ib s) c:=by unfold Ib;rw[List.foldl_append];rfl
def kindOf(a:T):Option Nat:=if a=word 1 then some 1 else if a=word 2 then some 2 else if a=word 3 then some 3 else if a=word 4 then some 4 else none
def aeK(k:Option Nat)(x y:Option T):Option Br:=match k,x,y with
 |some k,some x,some y=>some (k,x,y)
 |_,_,_=>none
def Ea(s:T):Option Br:=match parts s with
 |[a,b,c]=>aeK (kindOf a) (Kr b) (Kr c)
 |_=>none
theorem aBi{s a b c x y:T}{k:Nat}(h:parts s=[a,b,c])(h1:kindOf a=some k)(h2:Kr b=some x)(h3:Kr c=some y):Ea s=some (k,x,y):=by
 unfold Ea;rw[h]
 show aeK _ _ _=_
 rw[h1,h2,h3];rfl
theorem aBb{s a b c:T}(h:parts s=[a,b,c])(h1:kindOf a=none∨Kr b=none∨Kr c=none):Ea s=none:=by
 unfold Ea;rw[h]
 show aeK _ _ _=_
 rcases h1 with h1|h1|h1
 ·rw[h1];rfl
 ·rw[h1];cases kindOf a<;>rfl
 ·rw[h1];cases kindOf a<;>cases Kr b<;>rfl
theorem auT(s:T):∀ st:List T×T,(s.foldl Oc st).1=st.1++((s.foldl Oc ([],st.2)).1)∧(s.foldl Oc st).2=(s.foldl Oc ([],st.2)).2:=by
 induction s with
 |nil=>intro st;simp
 |cons c s ih=>
  rintro⟨l,x⟩;simp only[List.foldl_cons];by_cases h:c=32
  ·have e1:Oc (l,x) c=(l++[x],[]):=Ae h;have e2:Oc ([],x) c=([x],[]):=Ae h;rw[e1,e2];obtain⟨a1,a2⟩:=ih (l++[x],[]);obtain⟨b1,b2⟩:=ih ([x],[]);exact⟨by rw[a1,b1,DJ],by rw[a2,b2]⟩
  ·have e1:Oc (l,x) c=(l,x++[c]):=A9 h;have e2:Oc ([],x) c=([],x++[c]):=A9 h;rw[e1,e2];exact ih (l,x++[c])
theorem aiq(a:T)(ha:(32:UInt8)∉a):∀ (l:List T) (x:T),a.foldl Oc (l,x)=(l,x++a):=by
 induction a with
 |nil=>intro l x;simp
 |cons c a ih=>
  intro l x;rw[List.foldl_cons,show Oc (l,x) c=(l,x++[c]) from A9 (fun e=>ha (by simp[e])),ih (fun h=>ha (by simp[h]))];simp
theorem anE(a:T)(ha:(32:UInt8)∉a):parts a=[a]:=by
 unfold parts Ib;rw[aiq a ha];simp
theorem adY(a b:T)(ha:(32:UInt8)∉a):parts (a++32 :: b)=a :: parts b:=by
 unfold parts Ib;rw[List.foldl_append,aiq a ha,List.foldl_cons,show Oc ([],[]++a) 32=([a],[]) from by simp[Oc]];obtain⟨h1,h2⟩:=auT b ([a],[]);rw[h1,h2];rfl
def Oy:List T→T
 |[]=>[]
 |[a]=>a
 |a :: b :: l=>a++32 :: Oy (b :: l)
theorem ayE(l:List T)(x:T)(c:UInt8):Oy (l++[x++[c]])=Oy (l++[x])++[c]:=by
 induction l with
 |nil=>rfl
 |cons a l ih=>
  cases l with
  |nil=>simp[Oy]
  |cons b l=>
   show a++32 :: Oy ((b :: l)++[x++[c]])=(a++32 :: Oy ((b :: l)++[x]))++[c]
   rw[ih];simp
theorem ayD(l:List T)(x:T):Oy (l++[x]++[[]])=Oy (l++[x])++[32]:=by
 induction l with
 |nil=>simp[Oy]
 |cons a l ih=>
  cases l with
  |nil=>simp[Oy]
  |cons b l=>
   show a++32 :: Oy ((b :: l)++[x]++[[]])=(a++32 :: Oy ((b :: l)++[x]))++[32]
   rw[ih];simp
theorem ami(s:T):Oy (parts s)=s∧∀ a∈parts s,(32:UInt8)∉a:=by
 induction s using xA with
 |h0=>exact⟨rfl,by simp[parts,Ib]⟩
 |h1 s c ih=>
  obtain⟨h1,h2⟩:=ih;unfold parts at h1 h2 ⊢;rw[rz];unfold Oc;by_cases hc:c=32
  ·subst hc;rw[Ae rfl];refine⟨by rw[ayD,h1],fun a ha=>?_⟩;rcases Es.1 ha with h|h
   ·exact h2 a h
   ·rw[Fu.1 h];simp
  ·rw[A9 hc];refine⟨by rw[ayE,h1],fun a ha=>?_⟩;rcases Es.1 ha with h|h
   ·exact h2 a (UA _ h)
   ·rw[Fu.1 h,Es];rintro(e|e)
    ·exact h2 _ (List.mem_append_right _ (by simp)) e
    ·exact hc (Fu.1 e).symm
theorem amh:∀ (l:List T),∀ a∈l,a.length≤(Oy l).length
 |[],a,h=>by simp at h
 |[x],a,h=>by rw[Fu.1 h];exact Ag _
 |x :: y :: l,a,h=>by
  show a.length≤(x++32 :: Oy (y :: l)).length
  rw[AA,BM];rcases Ch.1 h with rfl|h
  ·omega
  ·have:=amh (y :: l) a h;omega
theorem anC{s a:T}(h:a∈parts s):a.length≤s.length:=by
 have:=amh _ a h;rwa[(ami s).1] at this
theorem ax5{s:T}(h:Eu s=[]):s=[]:=by
 have:=U2 s;rw[h] at this;refine Ku.1 ?_;rw[IV] at this;omega
theorem apO(s:T):Kr (En s)=some s:=by
 unfold En;by_cases h:s=[]
 ·rw[Ae h,h];rfl
 ·rw[A9 h];unfold Kr;have h2:=U2 s;rw[A9 (fun e=>by rw[e] at h2;simp at h2;omega),A9 (fun e=>h (ax5 e)),aeQ]
theorem bY(a x:T):Kr a=some x↔En x=a:=by
 constructor
 ·intro h;unfold Kr at h;split at h
  ·rename_i e
   injection h with h
   subst h;rw[e];rfl
  ·split at h
   ·cases h
   ·rename_i h1 h2
    have:=ac4 _ _ h;unfold En;rw[A9 (fun e=>h2 (by rw[←this,e];rfl)),this]
 ·rintro rfl;exact apO x
def Dh(a:T):T:=if a=[45] then[] else(Fb a).getD []
theorem avP(a:T):En (Dh a)=a↔(Kr a).isSome=true:=by
 constructor
 ·intro h;rw[(bY a _).2 h];rfl
 ·intro h;obtain⟨x,hx⟩:=KD.1 h;have e:=(bY a x).1 hx;have:Dh a=x:=by
   unfold Dh;unfold Kr at hx;split at hx
   ·rename_i h1
    rw[Ae h1];injection hx
   ·rename_i h1
    rw[A9 h1];split at hx
    ·cases hx
    ·rw[hx];rfl
  rw[this,e]
theorem tF{a x:T}(h:Kr a=some x):Dh a=x:=by
 have h1:=(avP a).2 (by rw[h];rfl);have h2:=(bY a (Dh a)).2 h1;rw[h] at h2;injection h2 with h2
 exact h2.symm
theorem aog{s:T}(h:(parts s).length≠3):Ea s=none:=by
 unfold Ea;split
 ·rename_i e;rw[e] at h;exact absurd rfl h
 ·rfl
theorem ayz(s:T)(h:(32:UInt8)∈s):∃ a b:T,s=a++32 :: b∧(32:UInt8)∉a:=by
 induction s with
 |nil=>simp at h
 |cons c s ih=>
  by_cases hc:c=32
  ·exact⟨[],s,by rw[hc];rfl,by simp⟩
  ·obtain⟨a,b,e,ha⟩:=ih ((Ch.1 h).resolve_left (fun e=>hc e.symm));exact⟨c :: a,b,by rw[e];rfl,by simp only[Ch,not_or];exact⟨fun e=>hc e.symm,ha⟩⟩
theorem ayy(a b:T)(ha:(32:UInt8)∉a):Go.Lib.index (a++32 :: b) [32]=(a.length:Int):=by
 induction a with
 |nil=>simp[Go.Lib.index,List.isPrefixOf]
 |cons c a ih=>
  have hc:c≠32:=fun e=>ha (by simp[e])
  have ih:=ih (fun h=>ha (by simp[h]));have hp:([32]:List UInt8).isPrefixOf (c :: (a++32 :: b))=false:=by simp[List.isPrefixOf,Ne.symm hc]
  rw[I5,Go.Lib.index,hp,ih];have:((a.length:Int) == -1)=false:=Ev.2 (by omega);rw[this];simp
theorem apd:∀ (k:Nat) (s:T),s.count 32=k→Go.Lib.splitK [32] 0 k s=parts s
 |0,s,h=>by rw[anE s (fun hm=>by have:=List.count_pos_iff.2 hm;omega)];rfl
 |k+1,s,h=>by
  obtain⟨a,b,rfl,ha⟩:=ayz s (List.count_pos_iff.1 (by omega));have hb:b.count 32=k:=by
   rw[List.count_append,List.count_cons_self,List.count_eq_zero.2 ha] at h;omega
  have hi:=ayy a b ha;have:((a.length:Int) == -1)=false:=Ev.2 (by omega);rw[Go.Lib.splitK,hi,this,adY a b ha];simp only[Bool.false_eq_true,if_false,Int.toNat_natCast,Nat.add_zero];rw[List.take_append_of_le_length (Ag _),D5,show([32]:List UInt8).length=1 from rfl,show a.length+1=(a++[32]).length by simp,show a++32 :: b=(a++[32])++b by simp,List.drop_append_of_le_length (Ag _),List.drop_length,EE,apd k b hb]
theorem aCx(s:T):Go.Lib.split s [32]=parts s:=by
 unfold Go.Lib.split;rw[Go.Lib.count_one];exact apd _ s rfl
end Ew
namespace Hex
open Go.RowKit Go.Maps
open Ah Aq
theorem aaq{w:World}{b:Nat}{l:List UInt8}{fp:Nat→Prop}(h:Et w b l fp)(x:UInt8)(hlen:l.length+1≤1099511627776):
  Calls prog 127 #[b,.int .u8 (x.toNat:Int)] w fun e w'=>e=.returned .nilIface∧∃ fp',Et w' b (l++[x]) fp'∧A7 fp w w'∧Dq fp fp' w:=by
 obtain⟨p,v,hb,hp,hown,hne,YI,rfl⟩:=h;have qx:=Hi YI;clear YI;obtain⟨i0,hi,AY,AZ,Bb⟩:=Dy ZV
 go_in
 go_wp2_with fail;refine(aaC b p v _ hb hp).mono ?_;rintro e w1⟨rfl,Ak,G8⟩;have lM:b < w.heap.size:=(Dn.1 hb).1;have awD:b < w1.heap.size:=Ip lM G8.size;have LK:w1.ownsRow 0 5 1 v l.length (Cq l):=BD hown G8 (fun q hq e=>hne (by rw[hq,e]));have c1:w1.cell? ⟨b,1,none⟩=some v:=by rw[Lib.cell_of_heap Ak];rfl
 have Dc:=Hi LK;have HB1:=Hi Ak;have ha:=AQ w1 (.cells #[.int .u8 (x.toNat:Int)] 5);have Ar:=Hi ha;have Gh:=E5 w1 #[.int .u8 (x.toNat:Int)] 5 0;have Xz:=Hi Gh;clear LK ha Gh
 go_wp2_with (at_builtin;refine wpList_append_own_at _ rfl _ _ 54 rfl 0 5 i0 (.int .u8 0) 1 1 underlying54 hi AY AZ Bb rfl (by decide) _ _ _ rfl (Dc.alloc _) ⟨w1.heap.size,0,none⟩ 1 1 (Cq [x]) rfl (by rw[NY];rfl) (by
   intro j u hj;rw[iW,Zf] at hj
   match j,hj with
   |0,hj=>
    rw[add_plain,Xz.out];simpa using hj
   |j+1,hj=>simp at hj) (oK [x]) (by unfold maxLen;omega) (by omega) (by omega) ?_;intro v' w2 Cf AJ Px hat;have Ac:w2.heap[b]?=some (.cells #[b,v] 210):=(AJ.block b (by rw[Az];omega) (fun e=>hne e.symm)).trans ((Ar.block b awD).trans HB1);have d1:w2.cell? ⟨b,1,none⟩=some v:=(by rw[Lib.cell_of_heap Ac];rfl);have f1:w2.frozen? ⟨b,1,none⟩=false:=Lib.frozen_of_heap Ac 1;obtain⟨ao,cap,rfl⟩:=ownsRow_succ Cf;have PZ:=Hi Cf;have D7:=Hi AJ;have Jg:=Hi hat;have Aj:=Hi Ac;clear Cf AJ Px hat Ac)
 go_ret;have Kj:(Value.slice ao (l.length+1) cap).ownBlock≠some b:=by
  rcases Jg.out with hat|hat
  ·rw[hat];exact hne
  ·rw[hat];intro e;have:=GR e;rw[Az] at this;omega
 have ED:A7 (fun k=>k=b∨v.ownBlock=some k) w w2:=((G8.mono (fun i e=>Or.inl e)).trans (A7.of_below (F:=fun k=>k=b∨v.ownBlock=some k) Ar) (fun i e=>.inl e)).trans (A7.of_grownBy (F:=fun k=>k=b∨v.ownBlock=some k) D7 (fun q e=>.inr e)) (fun i e=>.inl e);have Du:=ED.setCell (p:=⟨b,1,none⟩) (.inl (.inl rfl)) (.slice ao (l.length+1) cap);refine⟨rfl,fun q=>q=b∨(Value.slice ao (l.length+1) cap).ownBlock=some q,⟨some ⟨b,0,none⟩,.slice ao (l.length+1) cap,Cs w2 b 1 _ _ _ Aj,.inr rfl,?_,Kj,fun e=>by simp at e,rfl⟩,Du,?_⟩
 ·rw[AA,Ze];exact BD PZ ((A7.refl (fun q=>q=b) w2).setCell (p:=⟨b,1,none⟩) (.inl rfl) _) (fun q hq e=>Kj (by rw[hq,e]))
 ·rintro q (rfl|hq)
  ·exact .inl (.inl rfl)
  ·rcases Jg.out with hat|hat
   ·exact .inl (.inr ((show _=v.ownBlock from hat).symm.trans hq))
   ·rw[hat] at hq;have:=GR hq;rw[Az] at this;exact .inr (by have:=G8.size;omega)
def digits:T:=[48,49,50,51,52,53,54,55,56,57,97,98,99,100,101,102]
theorem atG:∀ k:Fin 16,digits[k.val]'k.isLt=Gg k.val:=by decide
theorem aaK(k:Nat)(hk:k < 16)(h:k < ({ data:=#[48,49,50,51,52,53,54,55,56,57,97,98,99,100,101,102] }:ByteArray).size):({ data:=#[48,49,50,51,52,53,54,55,56,57,97,98,99,100,101,102] }:ByteArray)[k]'h=Gg k:=atG ⟨k,hk⟩
theorem ac5(s:T)(w:World)(hs:s.length≤1000000000):Calls prog 50 #[s] w (Rt w ↑(Eu s)):=by
 have AP:=Hi ((Ai w.heap.size w).alloc (Ag _) (.cells #[.pointer none,()] 210));have Dl:=Hi (Et.made w)
 go_in
 go_wp2
 go_loopw [7] (fun i wr=>∃ (k:Nat) (fp:Nat→Prop),k≤s.length∧i= ↑(k:Int)∧Et wr w.heap.size (Eu (s.take k)) fp∧(∀ q,fp q→w.heap.size≤q)∧Bw w wr) (fun i _=>s.length -(intOf i).toNat)
 case atStart=>exact⟨0,_,AV _,rfl,by rw[Gm];exact Dl.out,fun q hq=>by
  rcases hq with h|h
  ·omega
  ·simp[Value.ownBlock] at h,AP⟩
 case round=>
  clear Dl AP;obtain⟨k,fp,hk,rfl,FJ,GH,hb⟩:=hrel;have Dl:=Hi FJ;have Fw:=Hi GH;have HB:=Hi hb;clear FJ GH hb;by_cases hlt:k < s.length
  ·have HT:=Hi (show Eu (s.take (k+1))=Eu (s.take k)++[Gg (s[k].toNat / 16)]++[Gg (s[k].toNat % 16)] from by rw[Cr hlt,akk];simp[Eu]);have hlen:(Eu (s.take k)).length≤2000000000:=(by rw[U2,Bc];omega);have Qv:=s[k].toNat_lt;have WE:s[k].toNat / 16 < 16:=(by omega);have abo:s[k].toNat % 16 < 16:=(by omega);go_wp2_with fail;refine(aaq Dl _ (by omega)).mono ?_;rintro e w1⟨rfl,F4,h1,h2,h3⟩;rw[aaK _ WE] at h1;have QK:=Hi h1;have afF:=Hi (show ∀ q,F4 q→w.heap.size≤q from fun q hq=>(h3 q hq).elim (Fw q) (fun e=>Ay HB.size e));have HB1:=Hi (Cz HB h2 Fw HB.size);clear h1 h2 h3;go_wp2_with fail;refine(aaq QK _ (by simp;omega)).mono ?_;rintro e w2⟨rfl,fp2,h1,h2,h3⟩;rw[aaK _ abo] at h1;have PQ:=Hi h1;have jC:=Hi (show ∀ q,fp2 q→w.heap.size≤q from fun q hq=>(h3 q hq).elim (afF q) (fun e=>Ay HB1.size e));have Aj:=Hi (Cz HB1 h2 afF HB1.size);clear h1 h2 h3;go_wp2;go_roundw
   case rel=>exact⟨k+1,fp2,by omega,by go_num,by rw[HT.out];exact PQ.out,jC,Aj⟩
   case measure=>simp[intOf];omega
  ·obtain rfl:k=s.length:=(by omega);rw[D5] at Dl;go_wp2_with fail;refine(XY Dl).mono ?_;rintro e w1⟨rfl,hu⟩;have HB1:=Hi (Cz HB hu Fw HB.size);clear hu;go_wp2;go_ret;exact⟨rfl,HB1⟩
theorem ahP(c:UInt8)(w:World):Calls prog 173 #[.int .u8 (c.toNat:Int)] w fun e w'=>e=.returned (.tuple #[.int .u8 (((val c).getD 0:Nat):Int),.bool (val c).isSome])∧w=w':=by
 have hc:=c.toNat_lt;by_cases h1:48≤c.toNat∧c.toNat≤57
 ·have hv:Hid (val c=some (c.toNat -48)):=Hi (by unfold val;rw[Ae h1]);have a1:(48:Int)≤(c.toNat:Int):=by omega
  have a2:(c.toNat:Int)≤57:=by omega
  have a3:IntKind.u8.wrap ((c.toNat:Int) -48)=((c.toNat -48:Nat):Int):=by rw[show IntKind.u8.wrap ((c.toNat:Int) -48)=((c.toNat:Int) -48) % 256 by simp[IntKind.wrap,IntKind.bits,IntKind.signed]];omega
  rw[hv.out];clear h1
  go_in
  go_wp2;go_ret2;exact⟨rfl,rfl⟩
 ·by_cases h2:97≤c.toNat∧c.toNat≤102
  ·have hv:Hid (val c=some (c.toNat -87)):=Hi (by unfold val;rw[A9 h1,Ae h2]);have a1:(48:Int)≤(c.toNat:Int):=(by omega);have a2:¬ (c.toNat:Int)≤57:=(by omega);have a4:(97:Int)≤(c.toNat:Int):=(by omega);have a5:(c.toNat:Int)≤102:=(by omega);rw[hv.out];clear h1 h2
   go_in
   go_wp2;go_ret2;refine⟨?_,rfl⟩
   show Ending.returned (.tuple #[.int .u8 ((c.toNat:Int) -97+10),true])=_
   rw[show((c.toNat:Int) -97+10)=((c.toNat -87:Nat):Int) by omega];try rfl
  ·have hv:Hid (val c=none):=Hi (by unfold val;rw[A9 h1,A9 h2]);rw[hv.out];by_cases b1:48≤c.toNat
   ·have a1:(48:Int)≤(c.toNat:Int):=(by omega);have a2:¬ (c.toNat:Int)≤57:=(by omega);by_cases b2:97≤c.toNat
    ·have a4:(97:Int)≤(c.toNat:Int):=(by omega);have a5:¬ (c.toNat:Int)≤102:=(by omega);clear h1 h2 b1 b2
     go_in
     go_wp2;go_ret2;exact⟨rfl,rfl⟩
    ·have a4:¬ (97:Int)≤(c.toNat:Int):=(by omega);clear h1 h2 b1 b2
     go_in
     go_wp2;go_ret2;exact⟨rfl,rfl⟩
   ·have a1:¬ (48:Int)≤(c.toNat:Int):=(by omega);have a4:¬ (97:Int)≤(c.toNat:Int):=(by omega);clear h1 h2 b1
    go_in
    go_wp2;go_ret2;exact⟨rfl,rfl⟩
theorem aeR:∀ (n:Nat) (s:T),s.length≤n→s.length % 2=1→Fb s=none
 |_,[],_,h=>by simp at h
 |_,[a],_,_=>rfl
 |0,_ :: _ :: _,h,_=>by simp at h
 |n+1,a :: b :: s,h,h2=>by
  rw[Fb,aeR n s (by simp at h;omega) (by simp at h2 ⊢;omega)];cases val a<;>cases val b<;>rfl
theorem apQ{s:T}{k:Nat}{S:T}(h:k+1 < s.length)(hS:Fb s=(Fb (s.drop k)).map (S++ ·)):Fb s=match val (s[k]'(by omega)),val s[k+1] with
  |some x,some y=>(Fb (s.drop (k+2))).map ((S++[UInt8.ofNat (16*x+y)])++ ·)
  |_,_=>none:=by
 have e1:s.drop k=(s[k]'(by omega)) :: s[k+1] :: s.drop (k+2):=by
  rw[OH (by omega),OH h]
 rw[hS,e1,Fb];cases val (s[k]'(by omega)) with
 |none=>rfl
 |some x=>
  cases val s[k+1] with
  |none=>rfl
  |some y=>
   simp only[Option.map_map]
   congr 1
   funext z
   simp
theorem Jw{c:UInt8}{x:Nat}(h:val c=some x):x < 16:=by
 unfold val at h;split at h
 ·simp only[Cu] at h;omega
 ·split at h
  ·simp only[Cu] at h;omega
  ·cases h
theorem ax8:∀ x:Fin 16,∀ y:Fin 16,bits BinOp.or IntKind.u8 ((x.val:Int)*16) (y.val:Int)=((UInt8.ofNat (16*x.val+y.val)).toNat:Int):=by decide+kernel
theorem ax7(x y:Nat)(hx:x < 16)(hy:y < 16):bits BinOp.or IntKind.u8 ((x:Int)*16) (y:Int)=((UInt8.ofNat (16*x+y)).toNat:Int):=ax8 ⟨x,hx⟩ ⟨y,hy⟩
def I4(s:T):T×Int:=match Fb s with|none=>([],7)|some t=>(t,0)
theorem aeS(s:T)(w:World)(hs:s.length≤1000000000):Calls prog 86 #[s] w (Rt w (.tuple #[(I4 s).1,.int .i64 (I4 s).2])):=by
 by_cases Rp:s.length % 2=1
 ·have hR:Hid (I4 s=([],7)):=Hi (by unfold I4;rw[aeR _ s (Ag _) Rp]);have hm:(s.length:Int).tmod 2=1:=by rw[Int.tmod_eq_emod_of_nonneg (by omega)];omega
  have KT:(s.length:Int) % 2=1:=by omega
  rw[hR.out];clear Rp
  go_in
  go_wp2;go_ret2;exact⟨rfl,Ai _ _⟩
 ·have hm:(s.length:Int).tmod 2=0:=by rw[Int.tmod_eq_emod_of_nonneg (by omega)];omega
  have KT:(s.length:Int) % 2=0:=by omega
  have AP:=Hi ((Ai w.heap.size w).alloc (Ag _) (.cells #[.pointer none,()] 210));have Dl:=Hi (Et.made w);have yI:=Hi Rp;clear Rp
  go_in
  go_wp2
  go_loopw [5] (fun i wr=>∃ (m:Nat) (S:T) (fp:Nat→Prop),m % 2=0∧m≤s.length∧i= ↑(m:Int)∧2*S.length=m∧Fb s=(Fb (s.drop m)).map (S++ ·)∧Et wr w.heap.size S fp∧(∀ q,fp q→w.heap.size≤q)∧Bw w wr) (fun i _=>s.length -(intOf i).toNat)
  case atStart=>exact⟨0,[],_,rfl,AV _,rfl,rfl,by simp,Dl,fun q hq=>by
   rcases hq with h|h
   ·omega
   ·simp[Value.ownBlock] at h,AP⟩
  case round=>
   clear Dl AP;obtain⟨m,S,fp,SV,hk,rfl,Ql,Oi,FJ,GH,hb⟩:=hrel;have Dl:=Hi FJ;have Fw:=Hi GH;have HB:=Hi hb;have Nz:=Hi Ql;have HM:=Hi SV;clear FJ GH hb Ql SV;by_cases hlt:m+1 < s.length
   ·have Bj:=apQ hlt Oi;have gu:(m:Int)+1 < (s.length:Int):=(by omega);have N8:m < s.length:=(by omega);have gF:(0:Int)≤(m:Int)+1:=(by omega);have QN:=Hi (fun(W:World)=>ahP (s[m]'N8) W);have O5:=Hi (fun(W:World)=>ahP (s[m+1]'hlt) W);have Ba:=Hi Bj;clear Bj Oi;cases Jq:val (s[m]'N8) with
    |none=>
     have hR:Hid (I4 s=([],7)):=Hi (by unfold I4;rw[Ba.out,Jq]);rw[Jq] at QN;clear Jq Ba;go_wp2_with fail;refine(QN _).mono ?_;rintro e w1⟨rfl,rfl⟩;go_wp2_with fail;refine(O5 _).mono ?_;rintro e w2⟨rfl,rfl⟩;go_wp2;go_ret2;rw[hR.out];exact⟨rfl,HB⟩
    |some x=>
     cases Gi:val (s[m+1]'hlt) with
     |none=>
      have hR:Hid (I4 s=([],7)):=Hi (by unfold I4;rw[Ba.out,Jq,Gi]);rw[Jq] at QN;rw[Gi] at O5;clear Jq Gi Ba;go_wp2_with fail;refine(QN _).mono ?_;rintro e w1⟨rfl,rfl⟩;go_wp2_with fail;refine(O5 _).mono ?_;rintro e w2⟨rfl,rfl⟩;go_wp2;go_ret2;rw[hR.out];exact⟨rfl,HB⟩
     |some y=>
      have hx:x < 16:=Jw Jq;have hy:y < 16:=Jw Gi;have BX:=Hi (show Fb s=(Fb (s.drop (m+2))).map ((S++[UInt8.ofNat (16*x+y)])++ ·) from by rw[Ba.out,Jq,Gi]);have SY:bits BinOp.or IntKind.u8 ((x:Int)*16) (y:Int)=((UInt8.ofNat (16*x+y)).toNat:Int):=ax7 x y hx hy;have CS:S.length+1≤1099511627776:=(by have:=Nz.out;omega);rw[Jq] at QN;rw[Gi] at O5;clear Jq Gi Ba;go_wp2_with fail;refine(QN _).mono ?_;rintro e w1⟨rfl,rfl⟩;go_wp2_with fail;refine(O5 _).mono ?_;rintro e w2⟨rfl,rfl⟩;go_wp2_with fail;refine(aaq Dl (UInt8.ofNat (16*x+y)) CS).mono ?_;rintro e w3⟨rfl,eU,h1,h2,h3⟩;have UC:=Hi h1;have aqV:=Hi (show ∀ q,eU q→w.heap.size≤q from fun q hq=>(h3 q hq).elim (Fw q) (fun e=>Ay HB.size e));have Au:=Hi (Cz HB h2 Fw HB.size);clear h1 h2 h3;go_wp2;go_roundw
      case rel=>exact⟨m+2,S++[UInt8.ofNat (16*x+y)],eU,by have:=HM.out;omega,by omega,by go_num,by have:=Nz.out;simp;omega,BX,UC,aqV,Au⟩
      case measure=>simp[intOf];omega
   ·obtain rfl:m=s.length:=(by have:=HM.out;have:=yI.out;omega);have hR:Hid (I4 s=(S,0)):=Hi (by unfold I4;rw[Oi,List.drop_length];simp[Fb]);have gu:¬ (s.length:Int)+1 < (s.length:Int):=(by omega);clear Oi hlt;go_wp2_with fail;refine(XY Dl).mono ?_;rintro e w1⟨rfl,hu⟩;have HB1:=Hi (Cz HB hu Fw HB.size);clear hu;go_wp2;go_ret2;rw[hR.out];exact⟨rfl,HB1⟩
end Hex
section
open Go.RowKit Go.Maps
open Ah Aq
@[irreducible] def Dr (A:M):List Value:=A.flatMap fun p=>[.string (bs p.1),.string (bs p.2)]
theorem R9:Dr []=[]:=by unfold Dr;rfl
theorem TQ(A:M)(p:T×T):Dr (A++[p])=Dr A++[.string (bs p.1),.string (bs p.2)]:=by unfold Dr;simp
theorem sF(A:M)(k:Nat)(hk:k < A.length)(j:Nat)(hj:j < 2):(Dr A)[k*2+j]?=([.string (bs A[k].1),.string (bs A[k].2)]:List Value)[j]? :=by
 unfold Dr
 induction A generalizing k with
 |nil=>simp at hk
 |cons c l ih=>
  rw[PL];cases k with
  |zero=>
   rw[Nat.zero_mul,GQ,List.getElem?_append_left (by simp;omega)];rfl
  |succ k=>
   rw[List.getElem?_append_right (by simp;omega),show(k+1)*2+j -([Value.string (bs c.1),.string (bs c.2)]:List Value).length=k*2+j by simp;omega];exact ih k (by simpa using hk)
abbrev MJ(w:World)(base:Nat)(v:Value)(A:M):Prop:=w.ownsRow base 274 2 v A.length (Dr A)
theorem aus:(prog.info? 274).map (fun i=>(i.zero,i.size,i.bytes))=some (some (.agg #[.string ByteArray.empty,.string ByteArray.empty]),2,32):=by kernel_rfl
theorem MJ.index{w:World}{base cap k:Nat}{q:Option Addr}{A:M}(h:MJ w base (.slice q A.length cap) A)(hk:k < A.length):
  ∃ p:Addr,(∀ W,(Instr.indexAt 172 (.slice q A.length cap) ↑(k:Int)).run prog W=.ok (.pointer (some p)) W)∧w.cell? p=some ↑A[k].1∧w.cell? ⟨p.block,p.off+1,none⟩=some ↑A[k].2:=by
 rcases h.2 with⟨e1,e2⟩|⟨g,cap',cur,e1,_⟩
 ·omega
 ·have e2:q=some ⟨g,0,none⟩:=by injection e1
  subst e2;have hc:∀ j,j < 2→∀ v,([.string (bs A[k].1),.string (bs A[k].2)]:List Value)[j]?=some v→w.cell? (((⟨g,0,none⟩:Addr).add (k*2)).add j)=some v:=fun j hj v hv=>by
   rw[←sF A k hk j hj] at hv;have:=h.cells (g:=g) rfl _ _ hv;rw[add_plain] at this ⊢;rw[Wt];exact this
  refine⟨_,fun W=>Hy prog _ 274 underlying172 2 (by kernel_rfl) ⟨g,0,none⟩ A.length cap k hk W,?_,?_⟩
  ·have:=hc 0 (by omega) _ rfl;rwa[add_zero'] at this
  ·exact hc 1 (by omega) _ rfl
def I9(w:World)(r:Nat)(v:Value)(A:M)(most:Int):Prop:=w.heap[r]?=some (.cells #[v,.int .i64 most] 174)∧MJ w 0 v A
theorem I9.below{w w':World}{r:Nat}{v:Value}{A:M}{most:Int}(h:I9 w r v A most)(hb:Bw w w'):I9 w' r v A most:=
 ⟨(hb.block r (Ao h.1)).trans h.1,BD h.2 (ub hb) (fun _ _ f=>f)⟩
theorem I9.noS{w w':World}{r:Nat}{v:Value}{A:M}{most:Int}{bl:Nat→Prop}(h:I9 w r v A most)(hu:A7 (I8 w bl) w w'):I9 w' r v A most:=
 ⟨hu.noS h.1 (by decide),BD h.2 hu (fun _ hg e=>e.not (Cx h.2 hg) (by decide))⟩
def FR(c:Am):Bool→M→M
 |d,[]=>if d then[] else[(c.name,c.data)]
 |d,p :: l=>(if d=false∧¬ p.1 < c.name then[(c.name,c.data)] else[])++((if p.1=c.name then[] else[p])++FR c (d || !decide (p.1 < c.name)) l)
theorem anW(c:Am)(l:M):FR c true l=l.filter fun p=>!(p.1 == c.name):=by
 induction l with
 |nil=>rfl
 |cons p l ih=>
  unfold FR;rw[A9 (by simp),Bool.true_or,ih,EE];by_cases h:p.1=c.name
  ·rw[Ae h,PK (by simpa using h)];rfl
  ·rw[A9 h,QI (by simpa using h)];rfl
theorem anX{c:Am}{A:M}(h:Up A):FR c c.gone A=Am.on A c:=by
 unfold Am.on;cases c.gone with
 |true=>rw[Ae rfl,anW];rfl
 |false=>
  rw[A9 (by simp)];unfold Ah.put
  induction A with
  |nil=>rfl
  |cons p l ih=>
   have hl:=Ky.1 h;unfold FR;by_cases h1:p.1 < c.name
   ·have h2:=RJ h1;rw[A9 (by simp[h1]),A9 (LM h1),QI (by simpa using h1),PK (by simpa using h2)];simp only[h1,decide_true,Bool.not_true,Bool.or_self,EE,I5];rw[ih hl.2]
   ·have hall:∀ q∈l,c.name < q.1:=fun q hq=>by
     rcases nL c.name p.1 with e|e|e
     ·exact YY e (hl.1 q hq)
     ·rw[e];exact hl.1 q hq
     ·exact absurd e h1
    rw[Ae ⟨rfl,h1⟩,PK (by simpa using h1),filter_none (fun q hq=>by simpa using RJ (hall q hq)),EE];simp only[h1,decide_false,Bool.not_false,Bool.or_true];rw[anW,filter_all (F:=l) (p:=fun p=>!(p.1 == c.name)) (fun q hq=>by simpa using(LM (hall q hq)).symm)];by_cases h2:p.1=c.name
    ·rw[Ae h2,PK (by rw[h2];simp),filter_all (fun q hq=>by simpa using hall q hq)];rfl
    ·have h3:c.name < p.1:=by
      rcases nL c.name p.1 with e|e|e
      ·exact e
      ·exact absurd e.symm h2
      ·exact absurd e h1
     rw[A9 h2,QI (by simpa using h3),filter_all (fun q hq=>by simpa using hall q hq)];rfl
section
variable {w w':World}
theorem aBp(n:Nat)(hn:n≤16384)(w:World):Calls prog 174 #[(n:Int)] w fun e w'=>e=.returned (.int .i64 (lg n:Nat))∧w=w':=by
 have hq:(n:Int).tdiv 8=((n / 8:Nat):Int):=by rw[Int.tdiv_eq_ediv_of_nonneg (by omega)];omega
 have hl:lg n=max (n / 8) 2:=rfl;have HL:=Hi hl;clear hl;obtain⟨k,hk⟩:=ex (n / 8);rw[hk] at hq HL;have SL:k≤16384:=by omega
 clear hk
 go_in
 go_wp2;go_ret;refine⟨?_,rfl⟩;rw[HL.out,show((max k 2:Nat):Int)=max (k:Int) 2 by omega];rfl
theorem aAU(n:Nat)(h8:8≤n)(hn:n≤16384)(w:World):Calls prog 91 #[(n:Int)] w fun e w'=>e=.returned (.int .i64 (sz n:Nat))∧w=w':=by
 obtain⟨l1,l2,l3⟩:=bE h8;have hs:Hid (sz n=(n -1 -lg n) / 2):=Hi rfl;have HLG:=Hi (aBp n hn w);obtain⟨k,hk⟩:=ex (lg n);rw[hk] at hs HLG l1 l3;have hq:((n:Int) -1 -(k:Int)).tdiv 2=(((n -1 -k) / 2:Nat):Int):=by rw[Int.tdiv_eq_ediv_of_nonneg (by omega)];omega
 clear hk l2
 go_in
 go_wp2_with fail;refine HLG.mono ?_;rintro e w1⟨rfl,rfl⟩;go_wp2;go_ret;rw[hs.out];exact⟨rfl,rfl⟩
theorem aBt{n:Nat}(h8:8≤n):(64*(sz n:Int) -4:Int)=(Cy n:Int):=by
 obtain⟨l1,l2,l3⟩:=bE h8;unfold Cy;omega
theorem aBq(n:Nat)(h8:8≤n)(hn:n≤16384)(w:World):Calls prog 39 #[(n:Int)] w fun e w'=>∃ r,e=.returned (.pointer (some ⟨r,0,none⟩))∧I9 w' r ↑() [] (Cy n)∧w.heap.size≤r∧Bw w w':=by
 have HA:=Hi (aAU n h8 hn w);have HR:=Hi (aBt h8);have hb:sz n≤16384:=by unfold sz;omega
 generalize sz n=k at*
 go_in
 go_wp2_with fail;refine HA.mono ?_;rintro e w1⟨rfl,rfl⟩;go_wp2;go_ret;refine⟨w.heap.size,rfl,⟨?_,by show World.ownsRow _ 0 _ 2 _ 0 (Dr []);rw[R9];exact DZ _ _ _ _⟩,Ag _,AQ _ _⟩;rw[←HR.out];exact AU _ _
theorem aov(nm dt:T)(g:Bool)(w:World)(h1:nm.length≤maxLen)(h2:dt.length≤maxLen):
  Calls prog 118 #[.agg #[nm,dt,g]] w (Rt w (.bool (Am.may ⟨nm,dt,g⟩))):=by
 have HB:=Hi (AQ w (.cells #[nm,dt,g] 57));unfold maxLen at h1 h2;have hn:nm≠[]↔1≤nm.length:=by cases nm<;>simp
 by_cases c1:1≤nm.length∧nm.length≤32∧dt.length≤65535
 ·obtain⟨c1,c2,c3⟩:=c1;have i1:(1:Int)≤(nm.length:Int):=by omega
  have i2:(nm.length:Int)≤32:=by omega
  have i3:(dt.length:Int)≤65535:=by omega
  cases g with
  |false=>
   have hv:Hid (Am.may ⟨nm,dt,false⟩=true):=Hi (by unfold Am.may EX;rw[LY (show nm≠[]∧nm.length≤32∧dt.length≤65535 from⟨hn.2 c1,c2,c3⟩)];rfl);rw[hv.out];clear hn
   go_in
   go_wp2;go_ret;exact⟨by simp,HB⟩
  |true=>
   by_cases h4:dt=[]
   ·have hv:Hid (Am.may ⟨nm,dt,true⟩=true):=Hi (by unfold Am.may EX;rw[LY (show nm≠[]∧nm.length≤32∧dt.length≤65535 from⟨hn.2 c1,c2,c3⟩),h4];rfl);have hf:dt.isEmpty=true:=(by simpa using h4);rw[hv.out];clear hn h4
    go_in
    go_wp2;go_ret;exact⟨by simp,HB⟩
   ·have hf:dt.isEmpty=false:=(by simpa using h4);have hv:Hid (Am.may ⟨nm,dt,true⟩=false):=Hi (by unfold Am.may;simp only;rw[hf];simp);rw[hv.out];clear hn h4
    go_in
    go_wp2;go_ret;exact⟨by simp,HB⟩
 ·have hv:Hid (Am.may ⟨nm,dt,g⟩=false):=Hi (by
   unfold Am.may EX;rw[decide_eq_false (show ¬ (nm≠[]∧nm.length≤32∧dt.length≤65535) from fun e=>c1 ⟨hn.1 e.1,e.2⟩)];rfl)
  rw[hv.out];clear hn;by_cases d1:1≤nm.length
  ·by_cases d2:nm.length≤32
   ·have i1:(1:Int)≤(nm.length:Int):=(by omega);have i2:(nm.length:Int)≤32:=(by omega);have i3:¬ (dt.length:Int)≤65535:=(by omega);clear c1
    go_in
    go_wp2;go_ret;exact⟨by simp,HB⟩
   ·have i1:(1:Int)≤(nm.length:Int):=(by omega);have i2:¬ (nm.length:Int)≤32:=(by omega);clear c1
    go_in
    go_wp2;go_ret;exact⟨by simp,HB⟩
  ·have i1:¬ (1:Int)≤(nm.length:Int):=(by omega);clear c1
   go_in
   go_wp2;go_ret;exact⟨by simp,HB⟩
theorem MJ.adF{base UY n:Nat}{v:Value}{xs:List Value}(h:w.ownsRow base 274 2 v n xs)(hb:UY≤base):w.ownsRow UY 274 2 v n xs:=by
 refine⟨h.1,?_⟩;rcases h.2 with h2|⟨g,cap,cur,e0,Ig,h3⟩
 ·exact .inl h2
 ·exact .inr ⟨g,cap,cur,e0,Ay hb Ig,h3⟩
end
end
namespace Bu
open Go.RowKit Go.Maps
open Ah Aq
structure Qd(w:World)(q:Addr)(p:T×T):Prop where
 key:w.cell? q=some ↑p.1
 val:w.cell? ⟨q.block,q.off+1,none⟩=some ↑p.2
def Bg(w:World)(a:Option Addr)(l:M):Prop:=∀ i,(h:i < l.length)→∃ p:Addr,a=some p∧Qd w (p.add (i*2)) l[i]
abbrev BK(w:World)(base:Nat)(v:Value)(l:M):Prop:=w.ownsRow base 51 2 v l.length (Dr l)
theorem RO:(prog.info? 51).map (fun i=>(i.zero,i.size,i.bytes))=some (some (.agg #[.string ByteArray.empty,.string ByteArray.empty]),2,32):=by kernel_rfl
section
variable {w w':World}{a:Option Addr}{l:M}
theorem Qd.upd{F:Nat→Prop}{q:Addr}{p:T×T}(h:Qd w q p)(hu:A7 F w w')(hF:¬ F q.block):Qd w' q p:=by
 have hl:=Cv h.key;exact⟨(hu.cell hl hF).trans h.key,(hu.cell (p:=⟨q.block,q.off+1,none⟩) hl hF).trans h.val⟩
theorem Bg.upd{F:Nat→Prop}(h:Bg w a l)(hu:A7 F w w')(hF:∀ p,a=some p→l≠[]→¬ F p.block):Bg w' a l:=fun i hi=>by
 obtain⟨p,e,hp⟩:=h i hi;exact⟨p,e,hp.upd hu (by rw[add_block];exact hF p e (List.ne_nil_of_length_pos (by omega)))⟩
theorem Bg.below(h:Bg w a l)(hb:Bw w w'):Bg w' a l:=h.upd (ub hb) (fun _ _ _ f=>f)
theorem Bg.nil(w:World)(a:Option Addr):Bg w a []:=fun i hi=>by simp at hi
theorem Bg.index(h:Bg w a l)(cap k:Nat)(hk:k < l.length):
  ∃ q:Addr,(∀ W,(Instr.indexAt 30 (.slice a l.length cap) ↑(k:Int)).run prog W=.ok (.pointer (some q)) W)∧Qd w q l[k]∧∃ p:Addr,a=some p∧q.block=p.block:=by
 obtain⟨p,rfl,hp⟩:=h k hk;exact⟨_,fun W=>Hy prog _ 51 underlying30 2 (by kernel_rfl) p l.length cap k hk W,hp,p,rfl,add_block _ _⟩
theorem Bg.CR{base n:Nat}{c:Nat}{q:Option Addr}(h:BK w base (.slice q n c) l):Bg w q l:=fun i hi=>by
 rcases h.2 with⟨e1,e2⟩|⟨g,cap',cur,e1,_⟩
 ·omega
 ·have e2:q=some ⟨g,0,none⟩:=by injection e1
  subst e2;have hc:∀ j,j < 2→∀ v,([.string (bs l[i].1),.string (bs l[i].2)]:List Value)[j]?=some v→w.cell? (((⟨g,0,none⟩:Addr).add (i*2)).add j)=some v:=fun j hj v hv=>by
   rw[←sF l i hi j hj] at hv;have:=h.cells (g:=g) rfl _ _ hv;rw[add_plain] at this ⊢;rw[Wt];exact this
  refine⟨_,rfl,?_,?_⟩
  ·have:=hc 0 (by omega) _ rfl;rwa[add_zero'] at this
  ·have:=hc 1 (by omega) _ rfl;rw[add_plain,Wt] at this;rw[add_plain];exact this
theorem aia(a b:M):Dr (a++b)=Dr a++Dr b:=by unfold Dr;rw[LV]
theorem eP(l:M):(Dr l).length=l.length*2:=by
 unfold Dr
 induction l with
 |nil=>rfl
 |cons p l ih=>rw[PL,AA,ih,BM];simp;omega
theorem aib(l:M):∀ u∈Dr l,u.oneCell'=true:=by
 unfold Dr;intro u hu;obtain⟨p,_,hp⟩:=NZ.1 hu;simp only[Ch,List.not_mem_nil,or_false] at hp;rcases hp with rfl|rfl<;>rfl
theorem Bg.cells{p:Addr}(h:Bg w (some p) l):∀ j u,(Dr l)[j]?=some u→w.cell? (p.add j)=some u:=fun j u hj=>by
 have hlt:j < l.length*2:=by
  have:=(Uy.1 hj).1;rwa[eP] at this
 obtain⟨i,r,hr,rfl⟩:∃ i r,r < 2∧j=i*2+r:=⟨j / 2,j % 2,by omega,by omega⟩;have hi:i < l.length:=by omega
 obtain⟨q,e,hp⟩:=h i hi;cases e;have hg:=sF l i hi r hr;rw[hj] at hg
 match r,hr with
 |0,_=>
  have:u= ↑l[i].1:=by simpa using hg
  rw[this];exact hp.key
 |1,_=>
  have:u= ↑l[i].2:=by simpa using hg
  rw[this,←Addr.add_add];have e3:(p.add (i*2)).add 1=⟨(p.add (i*2)).block,(p.add (i*2)).off+1,none⟩:=by
   generalize p.add (i*2)=q;unfold Addr.add;simp
  rw[e3];exact hp.val
def ap6(v:Value):Nat:=match v with| .slice _ n _=>n|_=>0
def Jj(q:Option Addr)(cap k:Nat):Option Addr:=if cap=k then q else q.map (·.add (k*2))
theorem adZ(W:World)(q:Option Addr)(n cap k:Nat)(hk:k≤n)(hc:n≤cap):
  (Instr.slice 30 (.slice q n cap) none (some ↑(k:Int)) none).run prog W=.ok (.slice q k cap) W:=by
 obtain⟨i,hi,_,hs,_⟩:=Dy RO;cases q<;>simp[Instr.slice,He underlying30,Instr.sliceBounds,sizeOf,typeInfo,hi,go_sem]<;>omega
theorem iE(W:World)(q:Option Addr)(n cap k:Nat)(hk:k≤n):
  (Instr.slice 30 (.slice q n cap) (some ↑(k:Int)) none none).run prog W=.ok (.slice (Jj q cap k) (n -k) (cap -k)) W:=by
 obtain⟨i,hi,_,hs,_⟩:=Dy RO;cases q
 ·simp[Instr.slice,He underlying30,Instr.sliceBounds,sizeOf,typeInfo,hi,go_sem,Jj];exact fun h=>absurd h (by omega)
 ·simp[Instr.slice,He underlying30,Instr.sliceBounds,sizeOf,typeInfo,hi,hs,go_sem,Jj];exact fun h=>absurd h (by omega)
theorem Bg.front(h:Bg w a l)(k:Nat):Bg w a (l.take k):=fun i hi=>by
 rw[Bc] at hi;obtain⟨p,hp,hc⟩:=h i (by omega);exact⟨p,hp,by rw[List.getElem_take];exact hc⟩
theorem Bg.back(h:Bg w a l){cap k:Nat}(hk:k≤l.length)(hc:l.length≤cap):Bg w (Jj a cap k) (l.drop k):=fun i hi=>by
 rw[CF] at hi;obtain⟨p,hp,BQ⟩:=h (k+i) (by omega);refine⟨p.add (k*2),?_,?_⟩
 ·unfold Jj;rw[A9 (by omega),hp];rfl
 ·rw[Addr.add_add,List.getElem_drop,show k*2+i*2=(k+i)*2 by omega];exact BQ
end
section
variable {w:World}
theorem cu{ops:Array Oper}{rest:List Oper}{o:Oper}{a:Act}{Q:Exit→Act→World→Prop}(Jm:o.guard=none)(s x:Operand)
  (ho:o.op=.call { callee:=.builtin .append,args:=#[s,x],argTypes:=#[30,30] })
  (base:Nat)(v:Value)(n:Nat)(l k:M)(hs:a.eval s=v)(hown:w.ownsRow base 51 2 v n (Dr l))(q:Option Addr)(cap m:Nat)(hx:a.eval x=.slice q m cap)(hm:k.length=m)(hk:Bg w q k)(hq:q=none→cap=0)
  (hn:n+m≤1000000000)(MZ:base≤w.heap.size)
  (h:∀ v' w',w'.ownsRow base 51 2 v' (n+m) (Dr (l++k))→w.grownBy w' v.ownBlock→(v'.ownBlock=v.ownBlock∨v'.ownBlock=some w.heap.size)→wpList prog ops Q rest (a.put o.dst v') w'):
  wpList prog ops Q (o :: rest) a w:=by
 obtain⟨i0,Bh,AY,AZ,Bb⟩:=Dy RO;subst hm;cases q with
 |none=>
  obtain rfl:k=[]:=by
   cases k with
   |nil=>rfl
   |cons y k=>
    obtain⟨p,hp,_⟩:=hk 0 (by simp);cases hp
  rw[hq rfl] at hx;refine wpList_append_own_none Jm s x _ ho base 51 i0 2 underlying30 Bh v n (Dr l) hs hown hx ?_;exact h v w (by rw[Eg];exact hown) (World.grownBy.refl w _) (.inl rfl)
 |some ad=>
  refine wpList_append_own_at w Jm s x _ ho base 51 i0 _ 2 32 underlying30 Bh AY AZ Bb rfl (by decide) v n (Dr l) hs hown ad k.length cap (Dr k) hx (eP k) hk.cells (aib k) (by unfold maxLen;omega) (by omega) MZ ?_;intro v' w' h1 h2 _ h4;refine h v' w' ?_ h2 h4;rw[aia];exact h1
theorem au5(w:World):BK (w.alloc (.cells #[] 51)) w.heap.size (.slice w.heap.size 0 0) []:=
 ⟨by unfold Dr;rfl,.inr ⟨w.heap.size,0,#[],rfl,Ag _,AU w _,Ag _,AV _,rfl,by unfold Dr;rfl⟩⟩
theorem FQ{base:Nat}{v:Value}{l:M}(h:BK w base v l):∃ q cap,v=.slice q l.length cap∧(q=none→cap=0)∧l.length≤cap:=by
 rcases h.2 with⟨e1,e2⟩|⟨g,cap,_,e1,_,_,hn,_⟩
 ·exact⟨none,0,by rw[e1,e2],fun _=>rfl,by omega⟩
 ·exact⟨_,cap,e1,(fun e=>by cases e),hn⟩
theorem vI(p q:T×T)(w:World):
  Calls prog 179 #[.agg #[p.1,p.2],.agg #[q.1,q.2]] w (Rt w (decide (p.1 < q.1))):=by
 have hb:=((Ai w.heap.size w).alloc (Ag _) (.cells #[p.1,p.2] 51)).alloc (by rw[Az];omega) (.cells #[q.1,q.2] 51);have HB:=Hi hb;have HV:=Hi (show Op.bytesLess p.1 q.1=decide (p.1 < q.1) from by rw[Go.Proofs.bytesLess_eq]);clear hb;generalize decide (p.1 < q.1)=r at*;have hv:=HV.out
 go_in
 go_wp2;go_ret;exact⟨rfl,HB⟩
theorem ai1(w:World)(p:Option Addr)(n c:Nat):(binOp .eql 30 (.slice p n c) ↑()).run prog w=.ok ↑p.isNone w:=by
 have h:∀ d,(Op.equalIn (d+1) 30 (.slice p n c) ↑()).run prog w=.ok p.isNone w:=fun d=>by
  cases p<;>simp[Op.equalIn,He underlying30]
 simp only[binOp];simp[show Op.equal 30 (.slice p n c) ↑()=Op.equalIn (9999+1) 30 (.slice p n c) ↑() from rfl,h 9999]
theorem nW{q:Option Addr}{cap:Nat}{l:M}(h:Bg w q l)(hq:q=none→cap=0)(hl:l.length≤1000000000):
  Calls prog 95 #[.slice q l.length cap] w fun e w'=>∃ v,e=.returned v∧BK w' w.heap.size v l∧Bw w w':=by
 cases q with
 |none=>
  obtain rfl:cap=0:=hq rfl;have N8:l=[]:=by
   cases l with
   |nil=>rfl
   |cons x l=>obtain⟨p,e,_⟩:=h 0 (by simp);cases e
  subst N8;have aV:=fun w=>ai1 w none 0 0
  clear h
  go_in
  go_wp2;go_ret;exact⟨_,rfl,by unfold BK;rw[R9];exact DZ _ _ _ _,Ai _ _⟩
 |some p=>
  have HH:=Hi h;have aV:=fun w=>ai1 w (some p) l.length cap
  clear h hq
  go_in
  go_wp2_with (at_builtin;refine cu rfl _ _ rfl w.heap.size _ 0 [] l rfl (au5 w) (some p) cap l.length rfl rfl (HH.below (AQ w _)) (fun e=>by cases e) (by simpa using hl) (by rw[Az];omega) ?_;intro v' w1 hown AJ hat);go_ret;refine⟨v',rfl,by rw[GQ,EE] at hown;exact hown,(AQ w _).grown AJ (by rw[Az];omega) (fun k e=>?_)⟩;have e':some w.heap.size=some k:=e;have:=GR e';omega
def as4(w:World)(A B:M)(va vb vo:Value)(wr:World):Prop:=∃ (A' B' O:M) (Tg Ti:Option Addr) (Pg cb':Nat),va=.slice Tg A'.length Pg∧vb=.slice Ti B'.length cb'∧Bg w Tg A'∧Bg w Ti B'∧(Tg=none→Pg=0)∧(Ti=none→cb'=0)∧A'.length≤Pg∧B'.length≤cb'∧
   O++Gw A' B'=Gw A B∧O.length+A'.length+B'.length=A.length+B.length∧BK wr w.heap.size vo O∧Bw w wr
theorem an7{qa qb:Option Addr}{ca cb:Nat}{A B:M}(hA:Bg w qa A)(hB:Bg w qb B)(ha:qa=none→ca=0)(hb:qb=none→cb=0)(fC:A.length≤ca)(hbc:B.length≤cb)(hl:A.length+B.length≤1000000):
  Calls prog 177 #[.slice qa A.length ca,.slice qb B.length cb,.func (.func 179) #[] #[]] w fun e w'=>∃ v,e=.returned v∧BK w' w.heap.size v (Gw A B)∧Bw w w':=by
 obtain⟨i0,Bh,AY,AZ,Bb⟩:=Dy RO;obtain⟨w1,Ot,Af,U4⟩:=run_make_own (P:=prog) w w.heap.size 30 51 i0 _ 2 underlying30 Bh AY AZ .i64 .i64 (A.length+B.length) (by rw[Bb];omega) (by unfold maxLen;omega) (Ag _);rw[Int.natCast_add] at Ot;have Df:((A.length:Int)+(B.length:Int))≤1000000:=by omega
 have HA:=Hi hA;have HB:=Hi hB;have BF:=Hi (show BK w1 w.heap.size (.slice w.heap.size 0 (A.length+B.length)) [] from by unfold BK;rw[R9];exact Af);have PU:=Hi ((Ai w.heap.size w).grown U4 (Ag _) (fun k e=>by cases e));have HQA:=Hi ha;have HQB:=Hi hb;clear hA hB Af U4 ha hb
 go_in
 go_wp2
 go_loopw [0,1,7] (fun va vb vo wr=>as4 w A B va vb vo wr) (fun va vb _ _=>ap6 va+ap6 vb)
 case atStart=>exact⟨A,B,[],qa,qb,ca,cb,rfl,rfl,HA,HB,HQA,HQB,fC,hbc,rfl,by simp,BF,PU⟩
 case round=>
  obtain⟨A',B',O,Tg,Ti,Pg,cb',rfl,rfl,hA',hB',ha',hb',ajC,ajM,hm,hlen,Af,ajN⟩:=hrel;obtain⟨qo,co,rfl⟩:=Bp Af;have je:=Hi hA';have jh:=Hi hB';have qF:=Hi ha';have qG:=Hi hb';have HM:=Hi hm;have HL:=Hi hlen;have HR:=Hi Af;have HW:=Hi ajN;have dh:=Hi ajC;have AO:=Hi ajM;clear hA' hB' ha' hb' hm hlen Af ajN HA HB BF PU HQA HQB fC hbc ajC ajM Ot Df;by_cases SC:A'=[]
  ·have HE:=Hi (show(O++A')++B'=Gw A B from by rw[←HM.out,SC,nS,Eg]);have hza:¬ (0:Int) < (A'.length:Int):=(by rw[SC];simp);clear SC
   go_wp2_with (at_builtin;first
    |(refine cu rfl _ _ rfl w.heap.size (.slice qo O.length co) O.length O A' rfl HR Tg Pg A'.length rfl rfl (je.below HW) qF (by have:=HL.out;omega) HW.size ?_;intro v1 w1 h1 g1 _;obtain⟨q1,c1,rfl⟩:=Bp h1;have H1:=Hi h1;have W1:=Hi (HW.grown g1 HW.size (fun k e=>DT HR e));clear h1 g1)
    |(refine cu rfl _ _ rfl w.heap.size (.slice q1 (O.length+A'.length) c1) (O.length+A'.length) (O++A') B' rfl H1 Ti cb' B'.length rfl rfl (jh.below W1) qG (by have:=HL.out;omega) W1.size ?_;intro v2 w2 h2 g2 _;have H2:=Hi h2;have W2:=Hi (W1.grown g2 W1.size (fun k e=>DT H1 e));clear h2 g2))
   go_ret;exact⟨v2,rfl,by unfold BK;rw[←HE.out,AA,AA];exact H2.out,W2⟩
  ·by_cases Qj:B'=[]
   ·have HE:=Hi (show(O++A')++B'=Gw A B from by rw[←HM.out,Qj,vV,Eg]);have hza:(0:Int) < (A'.length:Int):=(by have:=List.length_pos_iff.2 SC;omega);have hzb:¬ (0:Int) < (B'.length:Int):=(by rw[Qj];simp);clear SC Qj
    go_wp2_with (at_builtin;first
     |(refine cu rfl _ _ rfl w.heap.size (.slice qo O.length co) O.length O A' rfl HR Tg Pg A'.length rfl rfl (je.below HW) qF (by have:=HL.out;omega) HW.size ?_;intro v1 w1 h1 g1 _;obtain⟨q1,c1,rfl⟩:=Bp h1;have H1:=Hi h1;have W1:=Hi (HW.grown g1 HW.size (fun k e=>DT HR e));clear h1 g1)
     |(refine cu rfl _ _ rfl w.heap.size (.slice q1 (O.length+A'.length) c1) (O.length+A'.length) (O++A') B' rfl H1 Ti cb' B'.length rfl rfl (jh.below W1) qG (by have:=HL.out;omega) W1.size ?_;intro v2 w2 h2 g2 _;have H2:=Hi h2;have W2:=Hi (W1.grown g2 W1.size (fun k e=>DT H1 e));clear h2 g2))
    go_ret;exact⟨v2,rfl,by unfold BK;rw[←HE.out,AA,AA];exact H2.out,W2⟩
   ·have uL:=List.length_pos_iff.2 SC;have Qv:=List.length_pos_iff.2 Qj;have hza:(0:Int) < (A'.length:Int):=(by omega);have hzb:(0:Int) < (B'.length:Int):=(by omega);obtain⟨pa,hia,uS,-⟩:=je.index Pg 0 uL;obtain⟨pb,hib,Rs,-⟩:=jh.index cb' 0 Qv;have aFT:∀ W,(Instr.indexAt 30 (.slice Tg A'.length Pg) (.int .i64 0)).run prog W=.ok (.pointer (some pa)) W:=hia;have aFU:∀ W,(Instr.indexAt 30 (.slice Ti B'.length cb') (.int .i64 0)).run prog W=.ok (.pointer (some pb)) W:=hib;have WX:∀ W,(Instr.slice 30 (.slice Tg A'.length Pg) (some (.int .i64 1)) none none).run prog W=.ok (.slice (Jj Tg Pg 1) (A'.length -1) (Pg -1)) W:=fun W=>iE W Tg A'.length Pg 1 uL
    have Ta:∀ W,(Instr.slice 30 (.slice Ti B'.length cb') (some (.int .i64 1)) none none).run prog W=.ok (.slice (Jj Ti cb' 1) (B'.length -1) (cb' -1)) W:=fun W=>iE W Ti B'.length cb' 1 Qv
    have Ri:=OH uL;have uo:=OH Qv;rw[List.drop_zero] at Ri uo;obtain⟨x,hx⟩:=ex (A'[0]);obtain⟨y,hy⟩:=ex (B'[0]);rw[hx] at uS Ri;rw[hy] at Rs uo
    have KC:=Hi (fun(W:World) (hW:Bw w W)=>(show W.cell? pa=some ↑x.1∧W.cell? ⟨pa.block,pa.off+1,none⟩=some ↑x.2∧W.cell? pb=some ↑y.1∧W.cell? ⟨pb.block,pb.off+1,none⟩=some ↑y.2 from
     ⟨(uS.upd (ub hW) (fun f=>f)).key,(uS.upd (ub hW) (fun f=>f)).val,(Rs.upd (ub hW) (fun f=>f)).key,(Rs.upd (ub hW) (fun f=>f)).val⟩))
    have Lg:=Hi Ri;have jo:=Hi uo;obtain⟨k1,k2,k3,k4⟩:=KC _ HW.out;have Sy:=Hi HW.drew;clear hia hib uS Rs hx hy Ri uo SC Qj;by_cases hlt:y.1 < x.1
    ·have hd:decide (y.1 < x.1)=true:=LY hlt
     have HN:=Hi (show(O++[y])++Gw A' (B'.drop 1)=Gw A B from by
      rw[←HM.out]
      conv=>rhs;rw[Lg.out,jo.out,nP,Ae hlt]
      rw[DJ,←Lg.out];rfl)
     clear hlt;go_wp2
     go_region_held3 (fun W=>W.cell? pa=some ↑x.1∧W.cell? ⟨pa.block,pa.off+1,none⟩=some ↑x.2∧W.cell? pb=some ↑y.1∧W.cell? ⟨pb.block,pb.off+1,none⟩=some ↑y.2)
      (first|exact KC _ Sy|exact KC _ HB1)
      (first
       |(go_at_call 179;refine(vI y x _).mono ?_;rw[hd];rintro e W1 ⟨rfl,Ak⟩;have HB1:=bH Sy Ak;have Fy:=Hi (Cc HR.drew Ak);clear Ak))
     clear k1 k2 k3 k4;obtain⟨k1,k2,k3,k4⟩:=KC _ HB1.out;go_wp2_with fail
     go_region_law
      ((refine step_append_lies _ (by rfl) _ _ _ (by rfl) w.heap.size 51 i0 _ 2 32 underlying30 Bh AY AZ Bb (by rfl) (by omega) (.slice qo O.length co) O.length (Dr O) (by rfl) ((Fy.alloc _).drew) ⟨W1.heap.size,0,none⟩ 1 1 [.string (bs y.1),.string (bs y.2)] (by rfl) (by rfl) (World.news_of_block (cs:=#[.string (bs y.1),.string (bs y.2)]) (t:=51) (fr:=(0,0)) (AU W1 _)) (fun u hu=>by simp at hu;rcases hu with rfl|rfl<;>rfl) (by omega) (by have:=HL.out;unfold maxLen;omega) (by have:=HL.out;omega) (by have:=HB1.size;rw[World.size_drew,Az];omega) (W1.heap.size+1) (by simp) ?_;intro gg cap2 w2 Py AJ hat Pv))
     all_goals
      have Sw:=Hi (((HB1.alloc HB1.size _).drew).grown AJ (by have:=HB1.size;rw[World.size_drew,Az];omega) (fun k e=>DT Fy e));have PZ:=Hi Py;clear Py AJ hat k1 k2 k3 k4;go_wp2;go_roundw
      case rel=>
       repeat apply Exists.intro
       refine⟨?_,rfl⟩;exact⟨A',B'.drop 1,O++[y],Tg,Jj Ti cb' 1,Pg,cb' -1,rfl,by rw[CF],je,jh.back Qv AO,qF,(fun e=>by have:=qG.out;have h1:=AO.out;unfold Jj at e;split at e<;>simp_all<;>omega),dh,by have:=AO.out;rw[CF];omega,HN,by have:=HL.out;simp only[AA,La,CF];omega,by unfold BK;rw[AA,TQ];exact PZ.out,Sw⟩
      case measure=>
       show A'.length+(B'.length -1) < A'.length+B'.length
       omega
    ·have hd:decide (y.1 < x.1)=false:=decide_eq_false hlt
     have HN:=Hi (show(O++[x])++Gw (A'.drop 1) B'=Gw A B from by
      rw[←HM.out]
      conv=>rhs;rw[Lg.out,jo.out,nP,A9 hlt]
      rw[DJ,←jo.out];rfl)
     clear hlt;go_wp2
     go_region_held3 (fun W=>W.cell? pa=some ↑x.1∧W.cell? ⟨pa.block,pa.off+1,none⟩=some ↑x.2∧W.cell? pb=some ↑y.1∧W.cell? ⟨pb.block,pb.off+1,none⟩=some ↑y.2)
      (first|exact KC _ Sy|exact KC _ HB1)
      (first
       |(go_at_call 179;refine(vI y x _).mono ?_;rw[hd];rintro e W1 ⟨rfl,Ak⟩;have HB1:=bH Sy Ak;have Fy:=Hi (Cc HR.drew Ak);clear Ak))
     clear k1 k2 k3 k4;obtain⟨k1,k2,k3,k4⟩:=KC _ HB1.out;go_wp2_with fail
     go_region_law
      ((refine step_append_lies _ (by rfl) _ _ _ (by rfl) w.heap.size 51 i0 _ 2 32 underlying30 Bh AY AZ Bb (by rfl) (by omega) (.slice qo O.length co) O.length (Dr O) (by rfl) ((Fy.alloc _).drew) ⟨W1.heap.size,0,none⟩ 1 1 [.string (bs x.1),.string (bs x.2)] (by rfl) (by rfl) (World.news_of_block (cs:=#[.string (bs x.1),.string (bs x.2)]) (t:=51) (fr:=(0,0)) (AU W1 _)) (fun u hu=>by simp at hu;rcases hu with rfl|rfl<;>rfl) (by omega) (by have:=HL.out;unfold maxLen;omega) (by have:=HL.out;omega) (by have:=HB1.size;rw[World.size_drew,Az];omega) (W1.heap.size+1) (by simp) ?_;intro gg cap2 w2 Py AJ hat Pv))
     all_goals
      have Sw:=Hi (((HB1.alloc HB1.size _).drew).grown AJ (by have:=HB1.size;rw[World.size_drew,Az];omega) (fun k e=>DT Fy e));have PZ:=Hi Py;clear Py AJ hat k1 k2 k3 k4;go_wp2;go_roundw
      case rel=>
       repeat apply Exists.intro
       refine⟨?_,rfl⟩;exact⟨A'.drop 1,B',O++[x],Jj Tg Pg 1,Ti,Pg -1,cb',by rw[CF],rfl,je.back uL dh,jh,(fun e=>by have:=qF.out;have h1:=dh.out;unfold Jj at e;split at e<;>simp_all<;>omega),qG,by have:=dh.out;rw[CF];omega,AO,HN,by have:=HL.out;simp only[AA,La,CF];omega,by unfold BK;rw[AA,TQ];exact PZ.out,Sw⟩
      case measure=>
       show(A'.length -1)+B'.length < A'.length+B'.length
       omega
end
theorem wM{w:World}{base g n cap:Nat}{xs:List Value}{e:TypeId}{s:Nat}(h:w.ownsRow base e s (.slice g n cap) n xs)(i:Nat):w.frozen? ⟨g,i,none⟩=false:=by
 rcases h.2 with⟨e1,_⟩|⟨g',cap',cur,e1,hb,hg,_⟩
 ·cases e1
 ·injection e1 with e2 _ e3
  injection e2 with e4
  injection e4 with e5
  subst e5;exact CG w g i _ _ hg
theorem wL{w:World}{base:Nat}{e:TypeId}{s g n cap:Nat}{xs:List Value}(h:w.ownsRow base e s (.slice g n cap) n xs)(i:Nat)(v:Value):(w.setCell ⟨g,i,none⟩ v).ownsRow base e s (.slice g n cap) n (xs.set i v):=by
 obtain⟨h1,h2⟩:=h;refine⟨by rw[List.length_set];exact h1,?_⟩;rcases h2 with⟨e1,_⟩|⟨g',cap',cur,e1,hb,hg,hn,hm,DV,ht⟩
 ·cases e1
 ·injection e1 with e2 _ e3
  injection e2 with e4
  injection e4 with e5
  subst e5;subst e3;refine .inr ⟨g,cap,cur.setIfInBounds i v,rfl,hb,Cs w g i _ _ v hg,hn,hm,by rw[Array.size_setIfInBounds];exact DV,?_⟩;rw[Array.toList_setIfInBounds,←ht,List.take_set]
theorem apm(a b:T×T):Fq [a,b]=if b.1 < a.1 then[b,a] else[a,b]:=by
 rw[aey (by simp)];have e1:([a,b]:M).take ([a,b].length / 2)=[a]:=by simp
 have e2:([a,b]:M).drop ([a,b].length / 2)=[b]:=by simp
 rw[e1,e2];rw[iP (by simp),iP (by simp),nP,nS,vV]
theorem ash{q:Option Addr}{cap k:Nat}(h:q=none→cap=0)(e:Jj q cap k=none):cap -k=0:=by
 unfold Jj at e;split at e
 ·omega
 ·have:=h (by simpa using e);omega
theorem EM{w:World}{base UY n s:Nat}{e:TypeId}{v:Value}{xs:List Value}(h:w.ownsRow base e s v n xs)(hb:UY≤base):w.ownsRow UY e s v n xs:=by
 refine⟨h.1,?_⟩;rcases h.2 with h2|⟨g,cap,cur,e0,Ig,h3⟩
 ·exact .inl h2
 ·exact .inr ⟨g,cap,cur,e0,Ay hb Ig,h3⟩
theorem aCr(w:World)(q:Option Addr)(cap:Nat)(l:M)(h2:l.length < 2)(h:Bg w q l)(hq:q=none→cap=0):
  Calls prog 178 #[.slice q l.length cap] w fun e w'=>∃ v,e=.returned v∧BK w' w.heap.size v (Fq l)∧Bw w w':=by
 have HC:=Hi (nW h hq (by omega));have hi:(l.length:Int) < 2:=by omega
 have HS:=Hi (iP h2);clear h hq h2
 go_in
 go_wp2_with fail;refine HC.mono ?_;rintro e w1⟨v,rfl,hr,hb⟩;obtain⟨q1,c1,rfl,EC,GG⟩:=FQ hr;have HR:=Hi hr;have HB:=Hi hb;clear hr hb EC GG;go_wp2;go_ret;exact⟨_,rfl,by rw[HS.out];exact HR.out,HB⟩
theorem apc:∀ (n:Nat) (w:World) (q:Option Addr) (cap:Nat) (l:M),l.length≤n→Bg w q l→(q=none→cap=0)→l.length≤1000000→
  Calls prog 178 #[.slice q l.length cap] w fun e w'=>∃ v,e=.returned v∧BK w' w.heap.size v (Fq l)∧Bw w w':=by
 intro n
 induction n with
 |zero=>exact fun w q cap l hn h hq hl=>aCr w q cap l (by omega) h hq
 |succ n ih=>
  intro w q cap l hn h hq hl;have HC:=Hi (nW h hq (by omega));have IH:=Hi ih;clear h hq ih;obtain⟨L,hL⟩:=ex (l.length);rw[hL] at HC hl hn ⊢;have HL:=Hi hL;clear hL
  go_in
  go_wp2_with fail;refine HC.mono ?_;rintro e w1⟨v,rfl,hr,hb⟩;obtain⟨q1,c1,rfl,EC,GG⟩:=FQ hr;rw[HL.out] at GG ⊢;have HR:=Hi hr;have HB:=Hi hb;have HQ:=Hi EC;clear hr hb EC;by_cases h2:L < 2
  ·have hi:(L:Int) < 2:=(by omega);have HS:=Hi (iP (l:=l) (by rw[HL.out];exact h2));clear h2;go_wp2;go_ret;exact⟨_,rfl,by rw[HS.out];rw[HL.out] at HR;exact HR.out,HB⟩
  ·have hi:¬ (L:Int) < 2:=(by omega);by_cases h3:L=2
   ·subst h3;obtain⟨a,b,rfl⟩:∃ a b,l=[a,b]:=by
     match l,HL.out with
     |[a,b],_=>exact⟨a,b,rfl⟩
    have hr:=HR.out;obtain⟨g,rfl⟩:∃ g,q1=some ⟨g,0,none⟩:=by
     rcases hr.2 with⟨e1,e2⟩|⟨g,cap',cur,e1,_⟩
     ·simp at e2
     ·injection e1 with e2;exact⟨g,e2⟩
    have Ox:∀ W,(Instr.indexAt 30 (.slice (some ⟨g,0,none⟩) 2 c1) (.int .i64 0)).run prog W=.ok (.pointer (some ⟨g,0,none⟩)) W:=fun W=>by
     have:=Hy prog _ 51 underlying30 2 (by kernel_rfl) ⟨g,0,none⟩ 2 c1 0 (by omega) W;rw[add_plain] at this;exact this
    have Eo:∀ W,(Instr.indexAt 30 (.slice (some ⟨g,0,none⟩) 2 c1) (.int .i64 1)).run prog W=.ok (.pointer (some ⟨g,2,none⟩)) W:=fun W=>by
     have:=Hy prog _ 51 underlying30 2 (by kernel_rfl) ⟨g,0,none⟩ 2 c1 1 (by omega) W;rw[add_plain] at this;exact this
    have KC:=Hi (fun(W:World) (hW:Bw w1 W)=>(show W.cell? ⟨g,0,none⟩=some ↑a.1∧W.cell? ⟨g,1,none⟩=some ↑a.2∧W.cell? ⟨g,2,none⟩=some ↑b.1∧W.cell? ⟨g,3,none⟩=some ↑b.2 from by
     have BQ:=(Cc hr hW).cells (g:=g) rfl;have c0:=BQ 0 ↑a.1 (by unfold Dr;rfl);have c1:=BQ 1 ↑a.2 (by unfold Dr;rfl);have c2:=BQ 2 ↑b.1 (by unfold Dr;rfl);have c3:=BQ 3 ↑b.2 (by unfold Dr;rfl);rw[add_plain] at c0 c1 c2 c3;exact⟨c0,c1,c2,c3⟩))
    have KF:=Hi (fun(W:World) (hW:Bw w1 W)=>(show W.frozen? ⟨g,0,none⟩=false∧W.frozen? ⟨g,1,none⟩=false∧W.frozen? ⟨g,2,none⟩=false∧W.frozen? ⟨g,3,none⟩=false from
     ⟨wM (Cc hr hW) 0,wM (Cc hr hW) 1,wM (Cc hr hW) 2,wM (Cc hr hW) 3⟩))
    have HD:=Hi ((Ai w1.heap.size w1).drew);obtain⟨k0,k1,k2,k3⟩:=KC _ (Ai _ _);have BV:=Hi hr;have HG:=Hi (DT hr (b:=g) rfl);clear hr HR;by_cases hlt:b.1 < a.1
    ·have hd:decide (b.1 < a.1)=true:=LY hlt;go_wp2
     go_region_held3 (fun W=>W.cell? ⟨g,0,none⟩=some ↑a.1∧W.cell? ⟨g,1,none⟩=some ↑a.2∧W.cell? ⟨g,2,none⟩=some ↑b.1∧W.cell? ⟨g,3,none⟩=some ↑b.2)
      (first|exact KC _ HD|exact KC _ HB1)
      (first
       |(go_at_call 179;refine(vI b a _).mono ?_;rw[hd];rintro e W1 ⟨rfl,Ak⟩;have HB1:=bH HD Ak;clear Ak))
     clear k0 k1 k2 k3;obtain⟨k0,k1,k2,k3⟩:=KC _ HB1.out;obtain⟨f0,f1,f2,f3⟩:=KF _ HB1.out;go_wp2;go_region;all_goals
      go_wp2;go_ret;refine⟨_,rfl,?_,(((((bT HB HB1).setCell (p:=⟨g,0,none⟩) HG _).setCell (p:=⟨g,1,none⟩) HG _).setCell (p:=⟨g,2,none⟩) HG _).setCell (p:=⟨g,3,none⟩) HG _).drew⟩;rw[apm,Ae hlt];have:=(wL (wL (wL (wL (Cc BV HB1) 0 ↑b.1) 1 ↑b.2) 2 ↑a.1) 3 ↑a.2).drew;have e:(((((Dr [a,b]).set 0 ↑b.1).set 1 ↑b.2).set 2 ↑a.1).set 3 ↑a.2)=Dr [b,a]:=(by unfold Dr;rfl);rw[e] at this;exact this
    ·have hd:decide (b.1 < a.1)=false:=decide_eq_false hlt;go_wp2
     go_region_held3 (fun W=>W.cell? ⟨g,0,none⟩=some ↑a.1∧W.cell? ⟨g,1,none⟩=some ↑a.2∧W.cell? ⟨g,2,none⟩=some ↑b.1∧W.cell? ⟨g,3,none⟩=some ↑b.2)
      (first|exact KC _ HD|exact KC _ HB1)
      (first
       |(go_at_call 179;refine(vI b a _).mono ?_;rw[hd];rintro e W1 ⟨rfl,Ak⟩;have HB1:=bH HD Ak;clear Ak))
     go_wp2;go_ret;exact⟨_,rfl,by rw[apm,A9 hlt];exact Cc BV HB1.out,HB.trans (HB1.mono HB.size)⟩
   ·have hi3:¬ (L:Int)=2:=(by omega);obtain⟨k,hk⟩:=ex (L / 2);have aGb:(L:Int) / 2=(k:Int):=(by omega);have hr:=HR.out;rw[HL.out] at hr;have hat:=Bg.CR hr;have E9:k≤L:=(by omega);have ma:=fun W=>adZ W q1 L c1 k E9 GG
    have Pk:=fun W=>iE W q1 L c1 k E9
    have hf:=hat.front k;have Ig:=hat.back (cap:=c1) (k:=k) (by rw[HL.out];exact E9) (by rw[HL.out];exact GG);have lf:(l.take k).length=k:=(by rw[Bc,HL.out];omega);have lb:(l.drop k).length=L -k:=(by rw[CF,HL.out]);have C1:=Hi (fun(W:World) (hW:Bw w1 W)=>IH W q1 c1 (l.take k) (by omega) (hf.below hW) HQ (by omega));have C2:=Hi (fun(W:World) (hW:Bw w1 W)=>IH W (Jj q1 c1 k) (c1 -k) (l.drop k) (by omega) (Ig.below hW) (ash HQ) (by omega));have ls1:=iO (l.take k);have ls2:=iO (l.drop k);rw[lf] at C1 ls1;rw[lb] at C2 ls2;have HS:=Hi (aey (l:=l) (by rw[HL.out];exact h2));rw[HL.out,hk] at HS;have HD:=Hi ((Ai w1.heap.size w1).drew);have qW:=Hi ls1;have qX:=Hi ls2;clear hr hat hf Ig lf lb h2 h3 hk ls1 ls2 HC IH HR;go_wp2
    go_region_held3 (fun _=>True) (exact trivial)
     (first
      |(go_at_call 177;refine XJ.mono ?_;rintro e W3 ⟨v3,rfl,h3,Av⟩;have H3:=Hi h3;have B3:=bH B2 Av;clear h3 Av)
      |(go_at_call 178;refine(C2 _ B1).mono ?_;rintro e W2 ⟨v2,rfl,h2,Ac⟩;obtain⟨q3,c3,rfl,Uc,KN⟩:=FQ h2;rw[qX.out] at KN ⊢;have B2:=bH B1 Ac;have XJ:=Hi (an7 (Bg.CR (Cc H1 Ac)) (Bg.CR h2) zu Uc (by rw[qW.out];exact QL.out) (by rw[qX.out];exact KN) (by rw[qW.out,qX.out];omega));rw[qW.out,qX.out] at XJ;clear h2 Ac Uc KN)
      |(go_at_call 178;refine(C1 _ HD).mono ?_;rintro e W1 ⟨v1,rfl,h1,Ak⟩;obtain⟨q2,c2,rfl,Dw,GY⟩:=FQ h1;rw[qW.out] at GY ⊢;have H1:=Hi h1;have zu:=Hi Dw;have QL:=Hi GY;have B1:=bH HD Ak;clear h1 Ak Dw GY))
    go_wp2;go_ret;exact⟨_,rfl,by rw[HS.out];exact(show BK _ w.heap.size _ _ from EM H3 (by have:=B2.size;have:=HB.size;omega)),HB.trans (B3.mono HB.size)⟩
