/- ManB ManC PrsP KeepP -/
import Derived.Test.YtmbbhdebddbhoaaGreatQ18
import Derived.Test.YtmbbhdebddbhoaaGreatQ20
import Derived.Laws.AppendOwnNone
set_option maxRecDepth 100000
set_option linter.all false
namespace Go.Proofs.YtmbbhdebddbhoaaGreat
open Tryz
namespace Man
open Go.RowKit Wal Fil
theorem CP{w:World}{base c n:Nat}{a:Option Addr}{l:List T}(h:AQ w base (.slice a n c) l):BB w a l:=fun i hi=>by
 rcases h.2 with⟨e0,h0⟩|⟨g,cap,cur,e0,hb,hg,hn,hm,hs,ht⟩
 ·omega
 ·injection e0 with e1 e2 e3
  subst e1;refine⟨_,rfl,?_⟩;have e1:(cur.toList.take (l.length*1))[i]?=(strCells l)[i]? :=by rw[ht]
  rw[List.getElem?_take,Ac (by omega),CB,QA l i hi] at e1;rw[Qr];simp only[World.cell?,hg,Fs];simp only[Option.isSome_none,Bool.false_eq_true,if_false];exact e1
theorem CJ{w:World}{base:Nat}{e:TypeId}{size:Nat}{v:Value}{n:Nat}{xs:List Value}(h:w.ownsRow base e size v n xs){b:Nat}(hb:v.ownBlock=some b):base≤b:=by
 rcases Nat.lt_or_ge b base with h1|h1
 ·exact absurd hb.symm (row_ne_low h h1)
 ·exact h1
end Man
namespace Man
open Go.RowKit Wal Fil
section
variable {w w':World}{b y n N:Nat}{bl:Nat→Prop}{A:M}
theorem akc{m x:Nat}{gv:Value}{F:St}(h:Ci w y b m x gv F):Calls prog 140 #[.pointer (some ⟨y,0,none⟩)] w fun e w'=>e=.returned (.int .i64 F.fault)∧w=w':=by
 obtain⟨_,_,_,_,_,_,c6,_⟩:=h.cells;clear h;go_enter func140,ntmps140;go_wp2_with fail;go_ret;exact⟨rfl,rfl⟩
theorem ay{fz:Bool}(h:Eo fz w b y bl n N A):Calls prog 140 #[.pointer (some ⟨y,0,none⟩)] w fun e w'=>e=.returned (.int .i64 0)∧w=w':=by
 obtain⟨D,fp,m,x,gv,F,h1,h2,h3,h4,h5,h6,h7,h8,h9⟩:=h;refine(akc h2).mono ?_;rw[h4.fault];exact fun e w' h=>h
theorem akd(hg:Fil.Good A)(k:T):((Fil.get A k).getD []).length≤1000000:=by
 cases h:Fil.get A k with
 |none=>simp
 |some v=>
  have h1:=hg _ (Fil.get_some h);unfold E9 at h1;have h2:=Ld h1
  show v.length≤1000000
  have h3:v.length≤65535:=h2.2.2;omega
theorem Xh{fz:Bool}(h:Eo fz w b y bl n N A):JR w y A:=
 ⟨fun W hW k hk=>(ajo (h.below hW) k (by unfold maxLen;omega)).mono fun e w' h=>⟨h.1,h.2.2⟩,akd h.up.2.1⟩
end
end Man
namespace Man
open Go.RowKit Wal Fil
def Goes(w:World)(b y:Nat)(bl:Nat→Prop)(n N:Nat)(A':M)(w':World):Prop:=
 ∃ Bv,PH w' b y Bv n N A'∧A7 (FB w bl) w w'∧∀ k,Bv k→bl k∨w.heap.size≤k
section
variable {w w' w1:World}{b y n N:Nat}{bl:Nat→Prop}{A A':M}{fz:Bool}
end
end Man
namespace Man
open Go.Lib Fil
def GI(l:List T):Prop:=l.Pairwise (· < ·)
theorem SQ{a b:T}(h:a≤b):a < b∨a=b:=by
 rcases WI a b with e|e|e
 ·exact .inl e
 ·exact .inr e
 ·exact absurd e (List.not_lt.2 h)
theorem zI(z:List T)(hz:z.Pairwise (· ≤ ·)):∀ m,m≤z.length→GI (compactUpTo z.toArray m)∧∀ x,x∈compactUpTo z.toArray m↔x∈z.take m:=by
 intro m
 induction m with
 |zero=>exact fun _=>⟨by simp[GI,compactUpTo],fun x=>by simp[compactUpTo]⟩
 |succ m ih=>
  intro hm;obtain⟨h1,h2⟩:=ih (by omega);have av3:∀ j,(h:j < z.length)→z.toArray[j]! =z[j]:=fun j h=>by rw[getElem!_pos z.toArray j (by simpa using h)];simp
  have htk:∀ x,x∈z.take (m+1)↔x∈z.take m∨x=z[m]'(by omega):=fun x=>by
   rw[BS (by omega),Ee,DT]
  rw[compactUpTo_succ];by_cases hk:keeps z.toArray m=true
  ·rw[Ac hk,av3 m (by omega)];refine⟨List.pairwise_append.2 ⟨h1,by simp,fun a ha b hb=>?_⟩,fun x=>by rw[Ee,h2 x,htk x,DT]⟩;rw[DT] at hb;subst hb;obtain⟨i,hi,e⟩:=List.mem_take_iff_getElem.1 ((h2 a).1 ha);have hi':i < m:=(by omega);have hne:z[m]'(by omega)≠z[m -1]'(by omega):=by
    have h3:=Ld hk;rcases h3 with h3|h3
    ·omega
    ·rwa[av3 m (by omega),av3 (m -1) (by omega)] at h3
   have l1:z[m -1]'(by omega) < z[m]'(by omega):=by
    rcases SQ ((List.pairwise_iff_getElem.1 hz) (m -1) m (by omega) (by omega) (by omega)) with e|e
    ·exact e
    ·exact absurd e.symm hne
   by_cases him:i=m -1
   ·subst him;rw[←e];exact l1
   ·rcases SQ ((List.pairwise_iff_getElem.1 hz) i (m -1) (by omega) (by omega) (by omega)) with e'|e'
    ·rw[←e];exact QE e' l1
    ·rw[←e,e'];exact l1
  ·rw[Aa hk,E8];refine⟨h1,fun x=>?_⟩;rw[h2 x,htk x];have h3:¬ (m=0∨z.toArray[m]! ≠z.toArray[m -1]!):=fun e=>hk (Gs e)
   have hm0:0 < m:=by
    by_cases e:m=0
    ·exact absurd (.inl e) h3
    ·omega
   have he:z.toArray[m]! =z.toArray[m -1]! :=Classical.byContradiction fun e=>h3 (.inr e)
   rw[av3 m (by omega),av3 (m -1) (by omega)] at he;refine⟨.inl,fun e=>e.elim id fun e=>?_⟩;rw[e,he];exact List.mem_take_iff_getElem.2 ⟨m -1,by omega,rfl⟩
theorem zJ(l:List T):(l.mergeSort fun x y=>decide (x≤y)).Pairwise (· ≤ ·):=by
 have:=List.pairwise_mergeSort (le:=fun x y:T=>decide (x≤y)) (fun a b c h1 h2=>by simpa using List.le_trans (by simpa using h1) (by simpa using h2)) (fun a b=>by
  rcases List.le_total a b with h|h<;>simp[h]) l
 exact this.imp (fun h=>by simpa using h)
theorem Ew(l:List T):GI (Az l):=by
 unfold Az compact;exact(zI _ (zJ l) _ (Ab _)).1
theorem Df(l:List T)(x:T):x∈Az l↔x∈l:=by
 unfold Az compact;rw[(zI _ (zJ l) _ (Ab _)).2 x,Ck];exact List.mem_mergeSort
theorem LK:∀ {a b:List T},GI a→GI b→(∀ x,x∈a↔x∈b)→a=b
 |[],[],_,_,_=>rfl
 |[],y :: b,_,_,h=>absurd ((h y).2 (by simp)) (by simp)
 |x :: a,[],_,_,h=>absurd ((h x).1 (by simp)) (by simp)
 |x :: a,y :: b,ha,hb,h=>by
  obtain⟨a1,a2⟩:=Gd.1 ha;obtain⟨b1,b2⟩:=Gd.1 hb;have hxy:x=y:=by
   rcases AZ.1 ((h x).1 (by simp)) with e|e
   ·exact e
   ·rcases AZ.1 ((h y).2 (by simp)) with e'|e'
    ·exact e'.symm
    ·exact absurd (a1 y e') (Lp (b1 x e))
  subst hxy;rw[LK a2 b2 fun z=>⟨fun hz=>?_,fun hz=>?_⟩]
  ·rcases AZ.1 ((h z).1 (Dh _ hz)) with e|e
   ·exact absurd (a1 z hz) (by rw[e];exact Mk _)
   ·exact e
  ·rcases AZ.1 ((h z).2 (Dh _ hz)) with e|e
   ·exact absurd (b1 z hz) (by rw[e];exact Mk _)
   ·exact e
theorem az{l:List T}(h:GI l):Az l=l:=LK (Ew l) h (Df l)
def Gp(l:List T)(x:T):List T:=l.takeWhile (fun y=>decide (y < x))++(if(l.dropWhile fun y=>decide (y < x)).head?=some x then l.dropWhile (fun y=>decide (y < x)) else x :: l.dropWhile fun y=>decide (y < x))
theorem kV(y:T)(l:List T)(x:T):Gp (y :: l) x=if y < x then y :: Gp l x else if y=x then y :: l else x :: y :: l:=by
 unfold Gp;by_cases h:y < x
 ·rw[List.takeWhile_cons_of_pos (by simpa using h),List.dropWhile_cons_of_pos (by simpa using h),Ac h];rfl
 ·rw[List.takeWhile_cons_of_neg (by simpa using h),List.dropWhile_cons_of_neg (by simpa using h),Aa h];simp only[List.head?_cons,Bt,DI]
theorem zK(l:List T)(x z:T):z∈Gp l x↔z∈l∨z=x:=by
 induction l with
 |nil=>simp[Gp]
 |cons y l ih=>
  rw[kV];split
  ·rw[AZ,ih,AZ,or_assoc]
  ·split
   ·rename_i h;rw[AZ];subst h;constructor
    ·exact .inl
    ·rintro(e|e)
     ·exact e
     ·exact .inl e
   ·rw[AZ];exact or_comm
theorem ake{l:List T}(h:GI l)(x:T):GI (Gp l x):=by
 induction l with
 |nil=>simp[Gp,GI]
 |cons y l ih=>
  obtain⟨h1,h2⟩:=Gd.1 h;rw[kV];split
  ·rename_i hy
   refine Gd.2 ⟨fun z hz=>?_,ih h2⟩;rcases(zK l x z).1 hz with e|e
   ·exact h1 z e
   ·rw[e];exact hy
  ·rename_i hy
   split
   ·exact h
   ·rename_i hne
    have hxy:x < y:=by
     rcases WI x y with e|e|e
     ·exact e
     ·exact absurd e.symm hne
     ·exact absurd e hy
    refine Gd.2 ⟨fun z hz=>?_,h⟩;rcases AZ.1 hz with e|e
    ·rw[e];exact hxy
    ·exact QE hxy (h1 z e)
def kW(l:List T):List T:=l.foldl Gp []
theorem akf(l:List T):∀ o,GI o→GI (l.foldl Gp o)∧∀ z,z∈l.foldl Gp o↔z∈o∨z∈l:=by
 induction l with
 |nil=>exact fun o h=>⟨h,fun z=>by simp⟩
 |cons x l ih=>
  intro o h;obtain⟨h1,h2⟩:=ih _ (ake h x);refine⟨h1,fun z=>?_⟩
  show z∈l.foldl Gp (Gp o x)↔_
  rw[h2 z,zK,AZ,or_assoc]
theorem kX(l:List T):kW l=Az l:=by
 obtain⟨h1,h2⟩:=akf l [] List.Pairwise.nil;exact LK h1 (Ew l) fun z=>by rw[Df];exact(h2 z).trans (by simp)
end Man
namespace Man
open Go.RowKit Go.Maps Wal Fil
theorem aA{w:World}{ops:Array Oper}{rest:List Oper}{o:Oper}{a:Act}{Q:Exit→Act→World→Prop}(hgd:o.guard=none)(s x:Operand)
  (ho:o.op=.call { callee:=.builtin .append,args:=#[s,x],argTypes:=#[27,27] })
  (base:Nat)(v:Value)(l k:List T)(hs:a.eval s=v)(hown:AQ w base v l)(q:Option Addr)(cap:Nat)(hx:a.eval x=.slice q k.length cap)(hk:BB w q k)(hq:q=none→cap=0)
  (hn:l.length+k.length≤1000000)(auJ:base≤w.heap.size)
  (h:∀ v' w',AQ w' base v' (l++k)→w.grownBy w' v.ownBlock→(v'.ownBlock=v.ownBlock∨v'.ownBlock=some w.heap.size)→wpList prog ops Q rest (a.put o.dst v') w'):
  wpList prog ops Q (o :: rest) a w:=by
 obtain⟨i0,hi0,hz0,hz1,hz2⟩:=Cz gM;cases q with
 |none=>
  obtain rfl:k=[]:=by
   cases k with
   |nil=>rfl
   |cons y k=>
    obtain⟨p,hp,_⟩:=hk 0 (by simp);cases hp
  rw[hq rfl] at hx;refine wpList_append_own_none hgd s x _ ho base 9 i0 1 underlying27 hi0 v l.length (strCells l) hs hown hx ?_;exact h v w (by rw[E8];exact hown) (World.grownBy.refl w _) (.inl rfl)
 |some ad=>
  refine wpList_append_own_at w hgd s x _ ho base 9 i0 _ 1 16 underlying27 hi0 hz0 hz1 hz2 rfl (by decide) v l.length (strCells l) hs hown ad k.length cap (strCells k) hx (by rw[Nat.mul_one];simp[strCells]) (fun j u hu=>?_) (fun u hu=>?_) (by unfold maxLen;omega) (by omega) auJ ?_
  ·have hj:j < k.length:=by
    have:=(Ql.1 hu).1;simpa[strCells] using this
   obtain⟨p,hp,hc⟩:=hk j hj;cases hp;rw[QA k j hj] at hu;rw[hc,hu]
  ·unfold strCells at hu;obtain⟨y,_,rfl⟩:=AV.1 hu;rfl
  ·intro v' w' h1 h2 _ h4;refine h v' w' ?_ h2 h4;unfold AQ;rw[Aj,show strCells (l++k)=strCells l++strCells k by unfold strCells;rw[C8]];exact h1
section
variable {w w1:World}{b y n N:Nat}{bl:Nat→Prop}{A:M}
end
end Man
namespace Man
open Go.RowKit Go.Maps Wal Fil
attribute [local go_sem] Le
theorem OE{F:Nat→Prop}{W W':World}(hu:A7 F W W')(hF:∀ k o,F k→W.heap[k]?=some o→o.isCells=true):KeepsOthers W W':=
 ⟨hu.size,fun k o hk ho=>(hu.block k (BZ.1 hk).1 (fun f=>by have:=hF k o f hk;rw[ho] at this;cases this)).trans hk⟩
section
variable {w W W1 W2:World}{cB:Nat}{M:Array Value}{l:List Af}{v:Value}
end
end Man
namespace Prs
open Go.Lib Fil Man Wal
theorem V6{a b:T}:¬ a < b↔b≤a:=List.not_lt
theorem Xi{a b:T}(h:a < b):a≤b:=V6.1 (Lp h)
theorem akg{a b c:T}(h:a < b)(k:b≤c):a < c:=by
 rcases SQ k with e|e
 ·exact QE h e
 ·rw[←e];exact h
def BN(l:M):Prop:=l.Pairwise (fun a b=>a.1≤b.1)
instance (l:M):Decidable (BN l):=inferInstanceAs (Decidable (l.Pairwise _))
theorem BN.LM{l:M}(h:Up l):BN l:=h.imp Xi
def mrg:M→M→M
 |[],b=>b
 |x :: a,[]=>x :: a
 |x :: a,y :: b=>if y.1 < x.1 then y :: mrg (x :: a) b else x :: mrg a (y :: b)
termination_by a b=>a.length+b.length
theorem aB(a:M):mrg a []=a:=by cases a<;>simp[mrg]
theorem Xj(b:M):mrg [] b=b:=by simp[mrg]
theorem Xk(x y:T×T)(a b:M):mrg (x :: a) (y :: b)=if y.1 < x.1 then y :: mrg (x :: a) b else x :: mrg a (y :: b):=by rw[mrg]
theorem SS:∀ (n:Nat) (a b:M),a.length+b.length≤n→(mrg a b).Perm (a++b)
 |_,[],b,_=>by rw[Xj];exact List.Perm.refl _
 |_,x :: a,[],_=>by rw[aB,E8]
 |0,x :: a,y :: b,h=>by simp at h
 |n+1,x :: a,y :: b,h=>by
  rw[Xk];split
  ·refine(List.Perm.cons y (SS n (x :: a) b (by simp at h ⊢;omega))).trans ?_;exact(List.perm_middle (l₁:=x :: a)).symm
  ·exact List.Perm.cons x (SS n a (y :: b) (by simp at h ⊢;omega))
theorem aC:∀ (n:Nat) (a b:M),a.length+b.length≤n→BN a→BN b→BN (mrg a b)
 |_,[],b,_,_,hb=>by rw[Xj];exact hb
 |_,x :: a,[],_,ha,_=>by rw[aB];exact ha
 |0,x :: a,y :: b,h,_,_=>by simp at h
 |n+1,x :: a,y :: b,h,ha,hb=>by
  obtain⟨a1,a2⟩:=Gd.1 ha;obtain⟨b1,b2⟩:=Gd.1 hb;rw[Xk];split
  ·rename_i hlt
   refine Gd.2 ⟨fun z hz=>?_,aC n (x :: a) b (by simp at h ⊢;omega) ha b2⟩;rcases Ee.1 ((SS (n+1) (x :: a) b (by simp at h ⊢;omega)).mem_iff.1 hz) with e|e
   ·rcases AZ.1 e with rfl|e
    ·exact Xi hlt
    ·exact List.le_trans (Xi hlt) (a1 z e)
   ·exact b1 z e
  ·rename_i hlt
   refine Gd.2 ⟨fun z hz=>?_,aC n a (y :: b) (by simp at h ⊢;omega) a2 hb⟩;rcases Ee.1 ((SS (n+1) a (y :: b) (by simp at h ⊢;omega)).mem_iff.1 hz) with e|e
   ·exact a1 z e
   ·rcases AZ.1 e with rfl|e
    ·exact V6.1 hlt
    ·exact List.le_trans (V6.1 hlt) (b1 z e)
def Dp(l:M):M:=if h:l.length < 2 then l else mrg (Dp (l.take (l.length / 2))) (Dp (l.drop (l.length / 2)))
termination_by l.length
decreasing_by
 ·rw[Aw];omega
 ·rw[BA];omega
theorem V7{l:M}(h:l.length < 2):Dp l=l:=by rw[Dp,dif_pos h]
theorem kY{l:M}(h:¬ l.length < 2):Dp l=mrg (Dp (l.take (l.length / 2))) (Dp (l.drop (l.length / 2))):=by rw[Dp,dif_neg h]
theorem aD:∀ (n:Nat) (l:M),l.length≤n→(Dp l).Perm l∧BN (Dp l)
 |0,l,h=>by
  obtain rfl:l=[]:=IL.1 (by omega);rw[V7 (by simp)];exact⟨List.Perm.refl _,List.Pairwise.nil⟩
 |n+1,l,h=>by
  by_cases h2:l.length < 2
  ·rw[V7 h2];refine⟨List.Perm.refl _,?_⟩
   match l,h2 with
   |[],_=>exact List.Pairwise.nil
   |[x],_=>exact P9 _ _
  ·rw[kY h2];obtain⟨p1,s1⟩:=aD n (l.take (l.length / 2)) (by rw[Aw];omega);obtain⟨p2,s2⟩:=aD n (l.drop (l.length / 2)) (by rw[BA];omega);refine⟨?_,aC _ _ _ (Ab _) s1 s2⟩;have:=(SS _ (Dp (l.take (l.length / 2))) (Dp (l.drop (l.length / 2))) (Ab _)).trans (p1.append p2);rwa[Ja] at this
theorem Xl(l:M):(Dp l).Perm l:=(aD _ l (Ab _)).1
theorem zL(l:M):BN (Dp l):=(aD _ l (Ab _)).2
theorem V8(l:M):(Dp l).length=l.length:=(Xl l).length_eq
theorem akh(a b:M):(mrg a b).length=a.length+b.length:=by rw[(SS _ a b (Ab _)).length_eq,Aj]
theorem aF{l:M}(h:BN l)(hn:(l.map (·.1)).Nodup):Up l:=by
 induction l with
 |nil=>exact Up.nil
 |cons x l ih=>
  obtain⟨h1,h2⟩:=Gd.1 h;obtain⟨n1,n2⟩:=Hu.1 hn;refine Gd.2 ⟨fun z hz=>?_,ih h2 n2⟩;rcases SQ (h1 z hz) with e|e
  ·exact e
  ·exact absurd (ES (f:=(·.1)) hz) (by rw[←e];exact n1)
theorem zM{l:M}(h:Up l):Dp l=l:=
 Sd (aF (zL l) (((Xl l).map (·.1)).nodup_iff.2 h.nodup)) h (fun _=>(Xl l).mem_iff)
theorem aki{l:M}(h:Up l)(k v:T):mrg (del k l) [(k,v)]=put k v l:=by
 have hp:=SS _ (del k l) [(k,v)] (Ab _);have hd:=h.del k;refine Sd (aF (aC _ _ _ (Ab _) (BN.LM hd) (P9 _ _)) ?_) (h.put k v) fun p=>?_
 ·rw[(hp.map (·.1)).nodup_iff,C8,List.nodup_append];refine⟨hd.nodup,by simp,fun a ha b hb=>?_⟩;simp only[Bg,List.map_nil,DT] at hb;subst hb;obtain⟨q,hq,rfl⟩:=AV.1 ha;exact(QF.1 hq).2
 ·rw[hp.mem_iff,Nh h,Ee,QF,DT];exact⟨fun e=>e.elim .inr .inl,fun e=>e.elim .inr .inl⟩
def CF(l:M):List T:=Az (l.map (·.1))
theorem kZ{a b c:List T}(ha:GI a)(hb:GI b)(hc:GI c)(h:∀ x,x∈a↔x∈b∨x∈c)(hd:∀ x,x∈b→x∈c→False):a.length=b.length+c.length:=by
 have nd:∀ {l:List T},GI l→l.Nodup:=fun hl=>by rw[List.nodup_iff_pairwise_ne];exact hl.imp fun h=>I1 h
 rw[←Aj];refine List.Perm.length_eq ?_;refine(List.perm_ext_iff_of_nodup (nd ha) ?_).2 fun x=>by rw[h x,Ee]
 rw[List.nodup_append];exact⟨nd hb,nd hc,fun x hx y hy e=>hd x hx (by rw[e];exact hy)⟩
theorem zN(l:List T):(Az l).length=l.length↔l.Nodup:=by
 constructor
 ·induction l with
  |nil=>exact fun _=>List.nodup_nil
  |cons x l ih=>
   intro h;have hle:=Ox l;by_cases hx:x∈l
   ·have e:Az (x :: l)=Az l:=LK (Ew _) (Ew _) fun z=>by
     rw[Df,Df,AZ];exact⟨fun e=>e.elim (fun e=>by rw[e];exact hx) id,.inr⟩
    rw[e,AX] at h;omega
   ·have e:=kZ (Ew (x :: l)) (P9 _ x) (Ew l) (fun z=>by rw[Df,Df,AZ,DT]) (fun z h1 h2=>hx (by rw[DT] at h1;rw[←h1];exact(Df _ _).1 h2));rw[h,AX,Ii] at e;exact Hu.2 ⟨hx,ih (by omega)⟩
 ·intro h;refine List.Perm.length_eq ?_;refine(List.perm_ext_iff_of_nodup ?_ h).2 fun x=>Df l x
  rw[List.nodup_iff_pairwise_ne];exact(Ew l).imp fun h=>I1 h
theorem zO{l:M}(h:BN l):(CF l).length=l.length↔Up l:=by
 have:=zN (l.map (·.1));rw[BQ] at this;unfold CF;rw[this];exact⟨aF h,Up.nodup⟩
def heads:M→List T
 |[]=>[]
 |x :: l=>x.1 :: heads (l.dropWhile fun y=>decide (y.1=x.1))
termination_by l=>l.length
decreasing_by
 have:=(List.dropWhile_sublist (l:=l) fun y=>decide (y.1=x.1)).length_le;simp only[AX];omega
theorem zP:heads []=[]:=by rw[heads]
theorem zQ(x:T×T)(l:M):heads (x :: l)=x.1 :: heads (l.dropWhile fun y=>decide (y.1=x.1)):=by rw[heads]
theorem zR{α:Type}(p:α→Bool):∀ {l:List α} {x:α},x∈l.takeWhile p→p x=true
 |[],x,h=>by simp at h
 |y :: l,x,h=>by
  rw[List.takeWhile_cons] at h;split at h
  ·rename_i hy
   rcases AZ.1 h with rfl|h
   ·exact hy
   ·exact zR p h
  ·simp at h
theorem zS:∀ (n:Nat) (l:M),l.length≤n→BN l→GI (heads l)∧∀ k,k∈heads l↔∃ p∈l,p.1=k
 |_,[],_,_=>by rw[zP];exact⟨List.Pairwise.nil,fun k=>by simp⟩
 |0,x :: l,h,_=>by simp at h
 |n+1,x :: l,h,hs=>by
  obtain⟨s1,s2⟩:=Gd.1 hs;rw[zQ];have avV:=List.dropWhile_sublist (l:=l) fun y=>decide (y.1=x.1)
  have hl:=avV.length_le;obtain⟨i1,i2⟩:=zS n _ (by simp at h;omega) (s2.sublist avV);have hgt:∀ z∈l.dropWhile (fun y=>decide (y.1=x.1)),x.1 < z.1:=by
   intro z hz;have hne:l.dropWhile (fun y=>decide (y.1=x.1))≠[]:=List.ne_nil_of_mem hz;cases hd:l.dropWhile (fun y=>decide (y.1=x.1)) with
   |nil=>exact absurd hd hne
   |cons w r=>
    have hw:w.1≠x.1:=by
     have:=List.head_dropWhile_not (fun y:T×T=>decide (y.1=x.1)) hne;simp only[hd,List.head_cons] at this;simpa using this
    have QS:x.1 < w.1:=by
     rcases SQ (s1 w (avV.subset (by rw[hd];simp))) with e|e
     ·exact e
     ·exact absurd e.symm hw
    rw[hd] at hz;have hr:BN (w :: r):=(by rw[←hd];exact s2.sublist avV);rcases AZ.1 hz with rfl|hz
    ·exact QS
    ·exact akg QS ((Gd.1 hr).1 z hz)
  refine⟨Gd.2 ⟨fun k hk=>?_,i1⟩,fun k=>?_⟩
  ·obtain⟨p,hp,rfl⟩:=(i2 k).1 hk;exact hgt p hp
  ·rw[AZ,i2 k];constructor
   ·rintro(rfl|⟨p,hp,rfl⟩)
    ·exact⟨x,by simp,rfl⟩
    ·exact⟨p,Dh _ (avV.subset hp),rfl⟩
   ·rintro⟨p,hp,rfl⟩;rcases AZ.1 hp with rfl|hp
    ·exact .inl rfl
    ·by_cases e:p.1=x.1
     ·exact .inl e
     ·refine .inr ⟨p,?_,rfl⟩;rw[←List.takeWhile_append_dropWhile (p:=fun y:T×T=>decide (y.1=x.1)) (l:=l)] at hp;rcases Ee.1 hp with hp|hp
      ·have:=zR _ hp;exact absurd (by simpa using this) e
      ·exact hp
theorem akj(l:M):heads (Dp l)=CF l:=by
 obtain⟨h1,h2⟩:=zS _ (Dp l) (Ab _) (zL l);refine LK h1 (Ew _) fun k=>?_
 show _↔k∈Az (l.map (·.1))
 rw[h2 k,Df,AV];exact⟨fun⟨p,hp,e⟩=>⟨p,(Xl l).mem_iff.1 hp,e⟩,fun⟨p,hp,e⟩=>⟨p,(Xl l).mem_iff.2 hp,e⟩⟩
def flat(l:M):List T:=l.flatMap fun p=>[p.1,p.2]
def unflat:List T→M
 |a :: b :: l=>(a,b) :: unflat l
 |_=>[]
theorem R9(p:T×T)(l:M):flat (p :: l)=p.1 :: p.2 :: flat l:=rfl
theorem l6(a b:M):flat (a++b)=flat a++flat b:=by unfold flat;rw[Kk]
theorem Zw(l:M):(flat l).length=2*l.length:=by
 induction l with
 |nil=>rfl
 |cons p l ih=>rw[R9,AX,AX,ih,AX];omega
theorem aG:∀ l:M,unflat (flat l)=l
 |[]=>rfl
 |p :: l=>by rw[R9,unflat,aG l]
theorem zT:∀ (n:Nat) (l:List T),l.length=2*n→flat (unflat l)=l∧(unflat l).length=n
 |0,l,h=>by
  obtain rfl:l=[]:=IL.1 (by omega);exact⟨rfl,rfl⟩
 |n+1,l,h=>by
  match l,h with
  |a :: b :: l,h=>
   obtain⟨h1,h2⟩:=zT n l (by simp at h;omega);rw[unflat,R9,h1,AX,h2];exact⟨rfl,rfl⟩
def DX(l:M):Option T:=if l.length≤65535 then(textsE (flat l)).map (Crc.le 2 l.length++ ·) else none
def F6(s:T):Option M:=if s.length < 2 then none else
 (readTs (2*Crc.val (s.take 2)) (s.drop 2)).bind fun q=>if q.2=[]∧BN (unflat q.1) then some (unflat q.1) else none
theorem zU:∀ (l:List T) (a r:T),textsE l=some a→readTs l.length (a++r)=some (l,r)
 |[],a,r,h=>by
  simp only[textsE,Bt] at h;subst h;rfl
 |s :: l,a,r,h=>by
  simp only[textsE] at h;cases h1:CO s with
  |none=>rw[h1] at h;cases h
  |some x=>
   cases h2:textsE l with
   |none=>rw[h1,h2] at h;cases h
   |some y=>
    rw[h1,h2] at h;simp only[BI,Dm,Bt] at h;subst h;unfold CO at h1;split at h1
    ·rename_i hs
     simp only[Bt] at h1;subst h1;have hv:Crc.val ((Crc.le 2 s.length++s++y++r).take 2)=s.length:=by
      rw[Cw,Cw,Gf (Crc.Be _ _),Crc.YV];exact Nat.mod_eq_of_lt (by omega)
     have hrd:Fu (Crc.le 2 s.length++s++y++r)=some (s,2+s.length):=by
      unfold Fu;rw[hv,Aa (by simp[Crc.Be]),Ac (by simp[Crc.Be])];have:(Crc.le 2 s.length++s++y++r).take (2+s.length)=Crc.le 2 s.length++s:=by
       rw[Cw,Gf (by rw[Aj,Crc.Be])]
      rw[this,Jb (Crc.Be _ _)]
     show(Fu (Crc.le 2 s.length++s++y++r)).bind _=_
     rw[hrd];simp only[BI];have:(Crc.le 2 s.length++s++y++r).drop (2+s.length)=y++r:=by
      rw[Cw,Jb (by rw[Aj,Crc.Be])]
     rw[this,zU l y r h2];rfl
    ·cases h1
theorem aH{l:M}{s:T}(h:DX l=some s)(hs:BN l):F6 s=some l:=by
 unfold DX at h;split at h
 ·rename_i hl
  cases h1:textsE (flat l) with
  |none=>rw[h1] at h;cases h
  |some a=>
   rw[h1] at h;simp only[Dm,Bt] at h;subst h;have hv:Crc.val ((Crc.le 2 l.length++a).take 2)=l.length:=by
    rw[Gf (Crc.Be _ _),Crc.YV];exact Nat.mod_eq_of_lt (by omega)
   unfold F6;rw[hv,Aa (by simp[Crc.Be]),Jb (Crc.Be _ _)];have:=zU (flat l) a [] h1;rw[E8,Zw] at this;rw[this];simp only[BI];rw[aG,Ac ⟨trivial,hs⟩]
 ·cases h
theorem zV{s:T}{l:M}(h:F6 s=some l):BN l∧DX l=some s:=by
 unfold F6 at h;split at h
 ·cases h
 ·rename_i h2
  cases h1:readTs (2*Crc.val (s.take 2)) (s.drop 2) with
  |none=>rw[h1] at h;cases h
  |some q=>
   rw[h1] at h;simp only[BI] at h;split at h
   ·rename_i hq
    simp only[Bt] at h;obtain⟨e1,a,e2,e3⟩:=fQ (l:=q.1) (r:=q.2) h1;obtain⟨f1,f2⟩:=zT _ q.1 e1;rw[hq.1,E8] at e3;subst h;have hv:Crc.val (s.take 2) < 256 ^ 2:=by
     have:=Crc.Gg (s.take 2);rwa[Aw,FM (by omega)] at this
    have e:Crc.le 2 (Crc.val (s.take 2))=s.take 2:=by
     have:=Crc.VY (s.take 2);rwa[Aw,FM (by omega)] at this
    refine⟨hq.2,?_⟩;unfold DX;rw[f2,Ac (by omega),f1,e2];simp only[Dm];rw[e,e3,Ja]
   ·cases h
def Bc(l:M):Option T:=(DX l).bind fun s=>if s.length+4≤65535 then some (Crc.Du s) else none
def Va(nm:T→T)(ok:T×T→Prop)[DecidablePred ok](name data:T):Option M:=
 if(Crc.Dj data).2=0 then(F6 (Crc.Dj data).1).bind fun l=>if l≠[]∧(CF l).length=l.length∧∀ p∈l,nm p.1=name∧ok p then some l else none else none
theorem akk{nm:T→T}{ok:T×T→Prop}[DecidablePred ok]{name data:T}{l:M}(h:Va nm ok name data=some l):l≠[]∧Up l∧(∀ p∈l,nm p.1=name∧ok p)∧∃ s,DX l=some s∧data=Crc.Du s:=by
 unfold Va at h;split at h
 ·rename_i h0
  cases h1:F6 (Crc.Dj data).1 with
  |none=>rw[h1] at h;cases h
  |some k=>
   rw[h1] at h;simp only[BI] at h;split at h
   ·rename_i hk
    simp only[Bt] at h;subst h;obtain⟨g1,g2⟩:=zV h1;exact⟨hk.1,(zO g1).1 hk.2.1,hk.2.2,_,g2,(Crc.fO h0).symm⟩
   ·cases h
 ·cases h
theorem zW{nm:T→T}{ok:T×T→Prop}[DecidablePred ok]{name d:T}{l:M}(h:Bc l=some d)(hl:l≠[])(hu:Up l)(hn:∀ p∈l,nm p.1=name∧ok p):Va nm ok name d=some l:=by
 unfold Bc at h;cases h1:DX l with
 |none=>rw[h1] at h;cases h
 |some s=>
  rw[h1] at h;simp only[BI] at h;split at h
  ·simp only[Bt] at h;subst h;unfold Va;rw[Crc.fM,Ac rfl];simp only;rw[aH h1 (BN.LM hu)];simp only[BI];rw[Ac ⟨hl,(zO (BN.LM hu)).2 hu,hn⟩]
  ·cases h
end Prs
namespace Kp
open Go.Lib Fil Man Wal Prs
structure Kind where
 nm:T→T
 ours:T→Bool
 ok:T×T→Bool
structure Kind.Bf(K:Kind):Prop where
 SV:∀ k,K.ours (K.nm k)=true
 len:∀ k,(K.nm k).length=17
section
variable {K:Kind}{A:M}
def Kind.Cn(K:Kind)(name data:T):Option M:=Va K.nm (fun p=>K.ok p=true) name data
def fileOf(K:Kind)(A:M)(name:T):Option M:=(get A name).bind (K.Cn name)
def Ct(K:Kind)(A:M)(k:T):Option T:=(fileOf K A (K.nm k)).bind fun l=>get l k
def Cm(K:Kind)(A:M):M:=A.flatMap fun p=>if K.ours p.1=true then(K.Cn p.1 p.2).getD [] else[]
def Au(K:Kind)(A:M):List T:=CF (Cm K A)
theorem KR{name data:T}{l:M}(h:K.Cn name data=some l):l≠[]∧Up l∧(∀ p∈l,K.nm p.1=name∧K.ok p=true)∧∃ s,DX l=some s∧data=Crc.Du s:=akk h
theorem Vb(hK:K.Bf)(hu:Up A)(k v:T):(k,v)∈Cm K A↔Ct K A k=some v:=by
 unfold Cm;rw[JE];constructor
 ·rintro⟨p,hp,hm⟩;split at hm
  ·cases hr:K.Cn p.1 p.2 with
   |none=>rw[hr] at hm;simp at hm
   |some l=>
    rw[hr] at hm;simp only[Option.getD_some] at hm;obtain⟨_,h2,h3,_⟩:=KR hr;have hn:K.nm k=p.1:=(h3 _ hm).1;unfold Ct fileOf;rw[hn,get_mem hu (show(p.1,p.2)∈A from hp)];simp only[BI];rw[hr];simp only[BI];exact get_mem h2 hm
  ·simp at hm
 ·intro h;unfold Ct fileOf at h;cases hg:get A (K.nm k) with
  |none=>rw[hg] at h;cases h
  |some d=>
   rw[hg] at h;simp only[BI] at h;cases hr:K.Cn (K.nm k) d with
   |none=>rw[hr] at h;cases h
   |some l=>
    rw[hr] at h;simp only[BI] at h;refine⟨(K.nm k,d),get_some hg,?_⟩;rw[Ac (hK.SV k),hr];exact get_some h
theorem LP(hK:K.Bf)(hu:Up A)(k:T):k∈Au K A↔(Ct K A k).isSome=true:=by
 unfold Au CF;rw[Df,AV];constructor
 ·rintro⟨p,hp,rfl⟩;rw[(Vb hK hu p.1 p.2).1 hp];rfl
 ·intro h;obtain⟨v,hv⟩:=JD.1 h;exact⟨(k,v),(Vb hK hu k v).2 hv,rfl⟩
theorem akl:GI (Au K A):=Ew _
theorem l7:∀ {A:M},Up A→((Cm K A).map (·.1)).Nodup
 |[],_=>by simp[Cm]
 |p :: A,h=>by
  obtain⟨h1,h2⟩:=Gd.1 h;have ih:=l7 h2;unfold Cm at ih ⊢;rw[List.flatMap_cons,C8,List.nodup_append];refine⟨?_,ih,fun a ha b hb=>?_⟩
  ·split
   ·cases hr:K.Cn p.1 p.2 with
    |none=>simp
    |some l=>exact(KR hr).2.1.nodup
   ·simp
  ·rintro rfl;obtain⟨x,hx,rfl⟩:=AV.1 ha;obtain⟨y,hy,e⟩:=AV.1 hb;have n1:K.nm x.1=p.1:=by
    split at hx
    ·cases hr:K.Cn p.1 p.2 with
     |none=>rw[hr] at hx;simp at hx
     |some l=>rw[hr] at hx;exact((KR hr).2.2.1 _ hx).1
    ·simp at hx
   obtain⟨q,hq,hy⟩:=JE.1 hy;have n2:K.nm y.1=q.1:=by
    split at hy
    ·cases hr:K.Cn q.1 q.2 with
     |none=>rw[hr] at hy;simp at hy
     |some l=>rw[hr] at hy;exact((KR hr).2.2.1 _ hy).1
    ·simp at hy
   have:=h1 q hq;rw[←n1,←n2,e] at this;exact Mk _ this
theorem JW(hu:Up A):(Au K A).length=(Cm K A).length:=by
 have:=(zN ((Cm K A).map (·.1))).2 (l7 hu);rw[BQ] at this;exact this
def EM(K:Kind)(A:M)(ks:List T)(name:T):M:=((fileOf K A name).getD []).filter fun p=>decide (p.1∉ks)
def PN(K:Kind)(A:M)(ks:List T)(name:T):Af:=if EM K A ks name=[] then⟨name,[],true⟩ else⟨name,(Bc (EM K A ks name)).getD [],false⟩
def DC(K:Kind)(A:M)(ks:List T):List Af:=(Az (ks.map K.nm)).map (PN K A ks)
theorem aI(ks:List T)(name:T):(PN K A ks name).name=name:=by unfold PN;split<;>rfl
theorem zX{l k:M}(h:k.Sublist l):∀ {a:T},textsE (flat l)=some a→∃ b,textsE (flat k)=some b∧b.length≤a.length:=by
 induction h with
 |slnil=>exact fun {a} h=>⟨a,h,Ab _⟩
 | @cons k' l' x h ih=>
  intro a ha;rw[R9] at ha;simp only[textsE] at ha;cases h1:CO x.1 with
  |none=>rw[h1] at ha;cases ha
  |some u=>
   cases h2:CO x.2 with
   |none=>rw[h1,h2] at ha;cases ha
   |some v=>
    cases h3:textsE (flat l') with
    |none=>rw[h1,h2,h3] at ha;cases ha
    |some c=>
     rw[h1,h2,h3] at ha;simp only[BI,Dm,Bt] at ha;subst ha;obtain⟨b,hb,hl⟩:=ih h3;exact⟨b,hb,by simp only[Aj];omega⟩
 | @cons_cons k' l' x h ih=>
  intro a ha;rw[R9] at ha ⊢;simp only[textsE] at ha ⊢;cases h1:CO x.1 with
  |none=>rw[h1] at ha;cases ha
  |some u=>
   cases h2:CO x.2 with
   |none=>rw[h1,h2] at ha;cases ha
   |some v=>
    cases h3:textsE (flat l') with
    |none=>rw[h1,h2,h3] at ha;cases ha
    |some c=>
     rw[h1,h2,h3] at ha;simp only[BI,Dm,Bt] at ha;subst ha;obtain⟨b,hb,hl⟩:=ih h3;rw[hb];simp only[BI,Dm];exact⟨_,rfl,by simp only[Aj];omega⟩
theorem akm{l k:M}(h:k.Sublist l){s:T}(hs:DX l=some s)(hl:s.length+4≤65535):∃ d,Bc k=some d∧d.length≤s.length+4:=by
 unfold DX at hs;split at hs
 ·rename_i hn
  cases h1:textsE (flat l) with
  |none=>rw[h1] at hs;cases hs
  |some a=>
   rw[h1] at hs;simp only[Dm,Bt] at hs;subst hs;obtain⟨b,hb,hbl⟩:=zX h h1;have hkl:=h.length_le;rw[Aj,Crc.Be] at hl;unfold Bc DX;rw[Ac (by omega),hb];simp only[Dm,BI];rw[Ac (by rw[Aj,Crc.Be];omega)];exact⟨_,rfl,by rw[Crc.Mc,Aj,Aj,Crc.Be,Crc.Be];omega⟩
 ·cases hs
def There(K:Kind)(A:M)(ks:List T):Prop:=∀ k∈ks,(Ct K A k).isSome=true
theorem zY{ks:List T}(h:There K A ks){name:T}(hn:name∈Az (ks.map K.nm)):∃ d l,get A name=some d∧K.Cn name d=some l∧fileOf K A name=some l:=by
 rw[Df] at hn;obtain⟨k,hk,rfl⟩:=AV.1 hn;have h1:=h k hk;unfold Ct at h1;cases hf:fileOf K A (K.nm k) with
 |none=>rw[hf] at h1;simp at h1
 |some l=>
  have hf':=hf;unfold fileOf at hf;cases hg:get A (K.nm k) with
  |none=>rw[hg] at hf;cases hf
  |some d=>
   rw[hg] at hf;exact⟨d,l,rfl,hf,rfl⟩
theorem Xm(hg:Fil.Good A){ks:List T}(h:There K A ks){name:T}(hn:name∈Az (ks.map K.nm)):
  ∃ d l,get A name=some d∧K.Cn name d=some l∧fileOf K A name=some l∧(PN K A ks name).data.length≤d.length∧
   ((l.filter (fun p=>decide (p.1∉ks))=[]∧PN K A ks name=⟨name,[],true⟩)∨
    ∃ s,l.filter (fun p=>decide (p.1∉ks))≠[]∧Bc (l.filter fun p=>decide (p.1∉ks))=some s∧PN K A ks name=⟨name,s,false⟩∧s.length≤65535):=by
 obtain⟨d,l,h1,h2,h3⟩:=zY h hn;obtain⟨_,hu,hnm,s,hs,hd⟩:=KR h2;have hd2:d.length≤65535:=by
  have:=hg _ (get_some h1);unfold E9 at this;simp at this;exact this.2.2
 have hsl:s.length+4=d.length:=by rw[hd,Crc.Mc]
 obtain⟨c,hc,hcl⟩:=akm (List.filter_sublist (p:=fun p:T×T=>decide (p.1∉ks)) (l:=l)) hs (by omega);refine⟨d,l,h1,h2,h3,?_,?_⟩
 ·unfold PN EM;rw[h3];simp only[Option.getD_some];split
  ·exact Ar _
  ·rw[hc];simp only[Option.getD_some];omega
 ·unfold PN EM;rw[h3];simp only[Option.getD_some];split
  ·rename_i e
   exact .inl ⟨e,rfl⟩
  ·rename_i e
   exact .inr ⟨c,e,hc,by rw[hc];rfl,by omega⟩
theorem akn{F:M}(hu:Up F)(c:Af){d:T}(hg:get F c.name=some d)(hl:c.data.length≤d.length):used (Af.on F c)≤used F:=by
 have hm:=get_some hg;have ayX:(del c.name F |>.map cost).sum+cost (c.name,d)=(F.map cost).sum:=by
  have e:(put c.name d F)=F:=Sd (hu.put _ _) hu fun p=>by
   rw[Nh hu];constructor
   ·rintro(rfl|⟨h,_⟩)
    ·exact hm
    ·exact h
   ·intro hp;by_cases e:p.1=c.name
    ·refine .inl ?_;have h1:=get_mem hu (show(p.1,p.2)∈F from hp);rw[e,hg] at h1;injection h1 with h1
     rw[←e,h1]
    ·exact .inr ⟨hp,e⟩
  have:=((Sc (v:=d) hu c.name).map cost).sum_nat;rw[e,Bg,Cx] at this;omega
 unfold Af.on used;split
 ·omega
 ·have hp:=((Sc (v:=c.data) hu c.name).map cost).sum_nat;rw[hp,Bg,Cx];unfold cost at ayX ⊢;simp only at ayX ⊢;omega
theorem zZ:∀ {l:List Af} {F:M},Up F→(l.map (·.name)).Nodup→(∀ c∈l,∃ d,get F c.name=some d∧c.data.length≤d.length)→used (made F l)≤used F
 |[],F,_,_,_=>Ab _
 |c :: l,F,hu,hn,h=>by
  obtain⟨n1,n2⟩:=Hu.1 hn;obtain⟨d,h1,h2⟩:=h c (by simp);refine Ah (zZ (F:=Af.on F c) (hu.on c) n2 fun x hx=>?_) (akn hu c h1 h2);obtain⟨e,h3,h4⟩:=h x (Dh _ hx);have hne:x.name≠c.name:=fun e=>n1 (show c.name∈l.map (·.name) from by rw[←e];exact ES hx)
  refine⟨e,?_,h4⟩;unfold Af.on;split
  ·rw[Zu hu,Aa hne,h3]
  ·rw[get_put hu,Aa hne,h3]
theorem Xn(ks:List T):(DC K A ks).map (·.name)=Az (ks.map K.nm):=by
 unfold DC;rw[List.map_map]
 conv=>rhs;rw[←List.map_id (Az (ks.map K.nm))]
 exact Nb fun x _=>aI ks x
theorem SX(l:List T):(Az l).Nodup:=by
 rw[List.nodup_iff_pairwise_ne];exact(Ew l).imp fun h=>I1 h
theorem aJ(hK:K.Bf){n:Nat}(hu:Up A)(hg:Fil.Good A)(hr:used A≤Br n){ks:List T}(h:There K A ks):EL n A (DC K A ks)=0∧DN n A (DC K A ks)=made A (DC K A ks)∧used (made A (DC K A ks))≤used A∧(∀ c∈DC K A ks,c.may=true):=by
 have GA:∀ c∈DC K A ks,c.may=true:=by
  intro c hc;unfold DC at hc;obtain⟨name,hn,rfl⟩:=AV.1 hc;obtain⟨d,l,h1,h2,h3,h4,h5⟩:=Xm hg h hn;have hl:name.length=17:=by
   rw[Df] at hn;obtain⟨k,_,rfl⟩:=AV.1 hn;exact hK.len k
  have hne:name≠[]:=fun e=>by rw[e] at hl;cases hl
  rcases h5 with⟨_,e⟩|⟨s,_,_,e,hsl⟩
  ·rw[e];unfold Af.may E9;simp[hne,hl]
  ·rw[e];unfold Af.may E9;simp[hne,hl,hsl]
 have EJ:used (made A (DC K A ks))≤used A:=zZ hu (by rw[Xn];exact SX _) fun c hc=>by
  unfold DC at hc;obtain⟨name,hn,rfl⟩:=AV.1 hc;obtain⟨d,l,h1,h2,h3,h4,h5⟩:=Xm hg h hn;exact⟨d,by rw[aI];exact h1,h4⟩
 have asD:(DC K A ks).all Af.may=true:=by rw[Kl];exact GA
 refine⟨?_,?_,EJ,GA⟩
 ·unfold EL;rw[asD,Aa (by simp),Aa (by omega)]
 ·unfold DN;rw[Ac ⟨asD,by omega⟩]
theorem ako{l:List Af}(hn:(l.map (·.name)).Nodup){c:Af}(hc:c∈l):l.reverse.find? (fun x=>x.name == c.name)=some c:=by
 have hr:(l.reverse.map (·.name)).Nodup:=by rw[List.map_reverse];exact(List.reverse_perm _).nodup_iff.2 hn
 have hc':c∈l.reverse:=List.mem_reverse.2 hc;generalize l.reverse=r at*
 induction r with
 |nil=>simp at hc'
 |cons x r ih=>
  obtain⟨n1,n2⟩:=Hu.1 hr;rcases AZ.1 hc' with e|e
  ·subst e;simp
  ·have:x.name≠c.name:=fun e'=>n1 (show x.name∈r.map (·.name) from by rw[e'];exact ES e)
   rw[List.find?_cons_of_neg (by simpa using this)];exact ih n2 e
theorem aa0{F:M}(hu:Up F){l:List Af}(hn:(l.map (·.name)).Nodup){c:Af}(hc:c∈l):get (made F l) c.name=if c.gone then none else some c.data:=by
 rw[get_made hu,ako hn hc]
theorem aa1{F:M}(hu:Up F){l:List Af}{k:T}(h:k∉l.map (·.name)):get (made F l) k=get F k:=by
 have:l.reverse.find? (fun c=>c.name == k)=none:=by
  rw[List.find?_eq_none];intro x hx;have:x.name≠k:=fun e=>h (by rw[←e];exact ES (List.mem_reverse.1 hx))
  simpa using this
 rw[get_made hu,this]
theorem get_filter{l:M}(hu:Up l)(p:T×T→Bool)(k:T):get (l.filter p) k=(get l k).bind fun v=>if p (k,v) then some v else none:=by
 cases hg:get l k with
 |none=>
  rw[get_none] at hg;exact get_none.2 fun x hx=>hg x ((CU.1 hx).1)
 |some v=>
  have hm:=get_some hg;simp only[BI];split
  ·rename_i hp
   exact get_mem (hu.filter _) (CU.2 ⟨hm,hp⟩)
  ·rename_i hp
   refine get_none.2 fun x hx e=>?_
   obtain⟨h1,h2⟩:=CU.1 hx;have:=get_mem hu (show(x.1,x.2)∈l from h1);rw[e,hg] at this;injection this with this
   rw[this,←e] at hp;exact hp h2
theorem aa2{l:List Af}(hu:Up A){name:T}(h:name∉l.map (·.name)):fileOf K (made A l) name=fileOf K A name:=by
 unfold fileOf;rw[aa1 hu h]
theorem aa3(hu:Up A)(hg:Fil.Good A){ks:List T}(h:There K A ks)(k:T):Ct K (made A (DC K A ks)) k=if k∈ks then none else Ct K A k:=by
 have hnd:((DC K A ks).map (·.name)).Nodup:=by rw[Xn];exact SX _
 by_cases hn:K.nm k∈Az (ks.map K.nm)
 ·obtain⟨d,l,h1,h2,h3,h4,h5⟩:=Xm hg h hn;obtain⟨_,EW,hnm,_⟩:=KR h2;have auV:PN K A ks (K.nm k)∈DC K A ks:=ES hn;have hgm:=aa0 hu hnd auV;rw[aI] at hgm;have hv:Ct K A k=get l k:=by unfold Ct;rw[h3];rfl
  rw[hv];have aAz:get (l.filter fun p=>decide (p.1∉ks)) k=if k∈ks then none else get l k:=by
   rw[get_filter EW];cases get l k with
   |none=>simp
   |some v=>by_cases e:k∈ks<;>simp[e]
  rw[←aAz];rcases h5 with⟨e1,e2⟩|⟨s,e0,e1,e2,_⟩
  ·rw[e2] at hgm;unfold Ct fileOf;rw[hgm,e1];rfl
  ·rw[e2] at hgm;simp only[Bool.false_eq_true,if_false] at hgm;unfold Ct fileOf;rw[hgm];simp only[BI];rw[show K.Cn (K.nm k) s=some (l.filter fun p=>decide (p.1∉ks)) from zW e1 e0 (EW.filter _) fun p hp=>hnm p ((CU.1 hp).1)];rfl
 ·have hk:k∉ks:=fun e=>hn ((Df _ _).2 (ES e))
  rw[Aa hk];unfold Ct;rw[aa2 hu (by rw[Xn];exact hn)]
theorem aa4{K':Kind}(hK:K.Bf)(hK':K'.Bf)(hd:∀ x,K.ours x=true→K'.ours x=true→False)(hu:Up A)(ks:List T)(k:T):Ct K' (made A (DC K A ks)) k=Ct K' A k:=by
 unfold Ct;rw[aa2 hu];rw[Xn,Df];intro hm;obtain⟨j,_,e⟩:=AV.1 hm;exact hd _ (hK.SV j) (by rw[e];exact hK'.SV k)
end
end Kp
end Go.Proofs.YtmbbhdebddbhoaaGreat
