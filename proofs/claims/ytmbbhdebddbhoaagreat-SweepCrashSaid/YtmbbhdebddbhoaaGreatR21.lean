/- ManB ManC PrsP KeepP -/
import Derived.Test.YtmbbhdebddbhoaaGreatR18
import Derived.Test.YtmbbhdebddbhoaaGreatR20
import Derived.Laws.AppendOwnNone
set_option maxRecDepth 100000
set_option linter.all false
namespace Go.Proofs.YtmbbhdebddbhoaaGreat
open Tryz
namespace Man
open Go.RowKit Wal Fil
theorem Ea{w:World}{base c n:Nat}{a:Option Addr}{l:List T}(h:Bp w base (.slice a n c) l):Cg w a l:=fun i hi=>by
 rcases h.2 with⟨e0,h0⟩|⟨g,cap,cur,e0,hb,hg,hn,hm,hs,ht⟩
 ·omega
 ·injection e0 with e1 e2 e3
  subst e1;refine⟨_,rfl,?_⟩;have e1:(cur.toList.take (l.length*1))[i]?=(strCells l)[i]? :=by rw[ht]
  rw[List.getElem?_take,Ab (by omega),Dn,XL l i hi] at e1;rw[WC];simp only[World.cell?,hg,GJ];simp only[Option.isSome_none,Bool.false_eq_true,if_false];exact e1
theorem DC{w:World}{base:Nat}{e:TypeId}{size:Nat}{v:Value}{n:Nat}{xs:List Value}(h:w.ownsRow base e size v n xs){b:Nat}(hb:v.ownBlock=some b):base≤b:=by
 rcases Nat.lt_or_ge b base with h1|h1
 ·exact absurd hb.symm (row_ne_low h h1)
 ·exact h1
end Man
namespace Man
open Go.RowKit Wal Fil
section
variable {w w':World}{b y n N:Nat}{bl:Nat→Prop}{A:M}
theorem arU{m x:Nat}{gv:Value}{F:St}(h:CK w y b m x gv F):Calls prog 140 #[.pointer (some ⟨y,0,none⟩)] w fun e w'=>e=.returned (.int .i64 F.fault)∧w=w':=by
 obtain⟨_,_,_,_,_,_,c6,_⟩:=h.cells;clear h;go_enter func140,ntmps140;go_wp2_with fail;go_ret;exact⟨rfl,rfl⟩
theorem oW{fz:Bool}(h:EJ fz w b y bl n N A):Calls prog 140 #[.pointer (some ⟨y,0,none⟩)] w fun e w'=>e=.returned (.int .i64 0)∧w=w':=by
 obtain⟨D,fp,m,x,gv,F,h1,h2,h3,h4,h5,h6,h7,h8,h9⟩:=h;refine(arU h2).mono ?_;rw[h4.fault];exact fun e w' h=>h
theorem asL(hg:Fil.Good A)(k:T):((Fil.get A k).getD []).length≤1000000:=by
 cases h:Fil.get A k with
 |none=>simp
 |some v=>
  have h1:=hg _ (Fil.get_some h);unfold Fw at h1;have h2:=QC h1
  show v.length≤1000000
  have h3:v.length≤65535:=h2.2.2;omega
theorem iF{fz:Bool}(h:EJ fz w b y bl n N A):ND w y A:=
 ⟨fun W hW k hk=>(asu (h.below hW) k (by unfold maxLen;omega)).mono fun e w' h=>⟨h.1,h.2.2⟩,asL h.up.2.1⟩
end
end Man
namespace Man
open Go.RowKit Wal Fil
def Goes(w:World)(b y:Nat)(bl:Nat→Prop)(n N:Nat)(A':M)(w':World):Prop:=
 ∃ Bu,Rt w' b y Bu n N A'∧A7 (Gt w bl) w w'∧∀ k,Bu k→bl k∨w.heap.size≤k
section
variable {w w' w1:World}{b y n N:Nat}{bl:Nat→Prop}{A A':M}{fz:Bool}
end
end Man
namespace Man
open Go.Lib Fil
def Jq(l:List T):Prop:=l.Pairwise (· < ·)
theorem Zr{a b:T}(h:a≤b):a < b∨a=b:=by
 rcases kG a b with e|e|e
 ·exact .inl e
 ·exact .inr e
 ·exact absurd e (List.not_lt.2 h)
theorem afx(z:List T)(hz:z.Pairwise (· ≤ ·)):∀ m,m≤z.length→Jq (compactUpTo z.toArray m)∧∀ x,x∈compactUpTo z.toArray m↔x∈z.take m:=by
 intro m
 induction m with
 |zero=>exact fun _=>⟨by simp[Jq,compactUpTo],fun x=>by simp[compactUpTo]⟩
 |succ m ih=>
  intro hm;obtain⟨h1,h2⟩:=ih (by omega);have Nk:∀ j,(h:j < z.length)→z.toArray[j]! =z[j]:=fun j h=>by rw[getElem!_pos z.toArray j (by simpa using h)];simp
  have Ra:∀ x,x∈z.take (m+1)↔x∈z.take m∨x=z[m]'(by omega):=fun x=>by
   rw[Cw (by omega),Fp,EX]
  rw[compactUpTo_succ];by_cases hk:keeps z.toArray m=true
  ·rw[Ab hk,Nk m (by omega)];refine⟨List.pairwise_append.2 ⟨h1,by simp,fun a ha b hb=>?_⟩,fun x=>by rw[Fp,h2 x,Ra x,EX]⟩;rw[EX] at hb;subst hb;obtain⟨i,hi,e⟩:=List.mem_take_iff_getElem.1 ((h2 a).1 ha);have qJ:i < m:=(by omega);have hne:z[m]'(by omega)≠z[m -1]'(by omega):=by
    have h3:=QC hk;rcases h3 with h3|h3
    ·omega
    ·rwa[Nk m (by omega),Nk (m -1) (by omega)] at h3
   have l1:z[m -1]'(by omega) < z[m]'(by omega):=by
    rcases Zr ((List.pairwise_iff_getElem.1 hz) (m -1) m (by omega) (by omega) (by omega)) with e|e
    ·exact e
    ·exact absurd e.symm hne
   by_cases qM:i=m -1
   ·subst qM;rw[←e];exact l1
   ·rcases Zr ((List.pairwise_iff_getElem.1 hz) i (m -1) (by omega) (by omega) (by omega)) with e'|e'
    ·rw[←e];exact XA e' l1
    ·rw[←e,e'];exact l1
  ·rw[Aa hk,EH];refine⟨h1,fun x=>?_⟩;rw[h2 x,Ra x];have h3:¬ (m=0∨z.toArray[m]! ≠z.toArray[m -1]!):=fun e=>hk (Kr e)
   have Z4:0 < m:=by
    by_cases e:m=0
    ·exact absurd (.inl e) h3
    ·omega
   have he:z.toArray[m]! =z.toArray[m -1]! :=Classical.byContradiction fun e=>h3 (.inr e)
   rw[Nk m (by omega),Nk (m -1) (by omega)] at he;refine⟨.inl,fun e=>e.elim id fun e=>?_⟩;rw[e,he];exact List.mem_take_iff_getElem.2 ⟨m -1,by omega,rfl⟩
theorem amT(l:List T):(l.mergeSort fun x y=>decide (x≤y)).Pairwise (· ≤ ·):=by
 have:=List.pairwise_mergeSort (le:=fun x y:T=>decide (x≤y)) (fun a b c h1 h2=>by simpa using List.le_trans (by simpa using h1) (by simpa using h2)) (fun a b=>by
  rcases List.le_total a b with h|h<;>simp[h]) l
 exact this.imp (fun h=>by simpa using h)
theorem Iq(l:List T):Jq (AX l):=by
 unfold AX compact;exact(afx _ (amT l) _ (Ac _)).1
theorem Eg(l:List T)(x:T):x∈AX l↔x∈l:=by
 unfold AX compact;rw[(afx _ (amT l) _ (Ac _)).2 x,CY];exact List.mem_mergeSort
theorem Qw:∀ {a b:List T},Jq a→Jq b→(∀ x,x∈a↔x∈b)→a=b
 |[],[],_,_,_=>rfl
 |[],y :: b,_,_,h=>absurd ((h y).2 (by simp)) (by simp)
 |x :: a,[],_,_,h=>absurd ((h x).1 (by simp)) (by simp)
 |x :: a,y :: b,ha,hb,h=>by
  obtain⟨a1,a2⟩:=Iw.1 ha;obtain⟨b1,b2⟩:=Iw.1 hb;have Io:x=y:=by
   rcases Bt.1 ((h x).1 (by simp)) with e|e
   ·exact e
   ·rcases Bt.1 ((h y).2 (by simp)) with e'|e'
    ·exact e'.symm
    ·exact absurd (a1 y e') (Qr (b1 x e))
  subst Io;rw[Qw a2 b2 fun z=>⟨fun hz=>?_,fun hz=>?_⟩]
  ·rcases Bt.1 ((h z).1 (DT _ hz)) with e|e
   ·exact absurd (a1 z hz) (by rw[e];exact Rf _)
   ·exact e
  ·rcases Bt.1 ((h z).2 (DT _ hz)) with e|e
   ·exact absurd (b1 z hz) (by rw[e];exact Rf _)
   ·exact e
theorem tQ{l:List T}(h:Jq l):AX l=l:=Qw (Iq l) h (Eg l)
def Jg(l:List T)(x:T):List T:=l.takeWhile (fun y=>decide (y < x))++(if(l.dropWhile fun y=>decide (y < x)).head?=some x then l.dropWhile (fun y=>decide (y < x)) else x :: l.dropWhile fun y=>decide (y < x))
theorem acr(y:T)(l:List T)(x:T):Jg (y :: l) x=if y < x then y :: Jg l x else if y=x then y :: l else x :: y :: l:=by
 unfold Jg;by_cases h:y < x
 ·rw[List.takeWhile_cons_of_pos (by simpa using h),List.dropWhile_cons_of_pos (by simpa using h),Ab h];rfl
 ·rw[List.takeWhile_cons_of_neg (by simpa using h),List.dropWhile_cons_of_neg (by simpa using h),Aa h];simp only[List.head?_cons,BX,Eu]
theorem alL(l:List T)(x z:T):z∈Jg l x↔z∈l∨z=x:=by
 induction l with
 |nil=>simp[Jg]
 |cons y l ih=>
  rw[acr];split
  ·rw[Bt,ih,Bt,or_assoc]
  ·split
   ·rename_i h;rw[Bt];subst h;constructor
    ·exact .inl
    ·rintro(e|e)
     ·exact e
     ·exact .inl e
   ·rw[Bt];exact or_comm
theorem axx{l:List T}(h:Jq l)(x:T):Jq (Jg l x):=by
 induction l with
 |nil=>simp[Jg,Jq]
 |cons y l ih=>
  obtain⟨h1,h2⟩:=Iw.1 h;rw[acr];split
  ·rename_i hy
   refine Iw.2 ⟨fun z hz=>?_,ih h2⟩;rcases(alL l x z).1 hz with e|e
   ·exact h1 z e
   ·rw[e];exact hy
  ·rename_i hy
   split
   ·exact h
   ·rename_i hne
    have Io:x < y:=by
     rcases kG x y with e|e|e
     ·exact e
     ·exact absurd e.symm hne
     ·exact absurd e hy
    refine Iw.2 ⟨fun z hz=>?_,h⟩;rcases Bt.1 hz with e|e
    ·rw[e];exact Io
    ·exact XA Io (h1 z e)
def acD(l:List T):List T:=l.foldl Jg []
theorem ay5(l:List T):∀ o,Jq o→Jq (l.foldl Jg o)∧∀ z,z∈l.foldl Jg o↔z∈o∨z∈l:=by
 induction l with
 |nil=>exact fun o h=>⟨h,fun z=>by simp⟩
 |cons x l ih=>
  intro o h;obtain⟨h1,h2⟩:=ih _ (axx h x);refine⟨h1,fun z=>?_⟩
  show z∈l.foldl Jg (Jg o x)↔_
  rw[h2 z,alL,Bt,or_assoc]
theorem acE(l:List T):acD l=AX l:=by
 obtain⟨h1,h2⟩:=ay5 l [] List.Pairwise.nil;exact Qw h1 (Iq l) fun z=>by rw[Eg];exact(h2 z).trans (by simp)
end Man
namespace Man
open Go.RowKit Go.Maps Wal Fil
theorem uQ{w:World}{ops:Array Oper}{rest:List Oper}{o:Oper}{a:Act}{Q:Exit→Act→World→Prop}(O4:o.guard=none)(s x:Operand)
  (ho:o.op=.call { callee:=.builtin .append,args:=#[s,x],argTypes:=#[27,27] })
  (base:Nat)(v:Value)(l k:List T)(hs:a.eval s=v)(hown:Bp w base v l)(q:Option Addr)(cap:Nat)(hx:a.eval x=.slice q k.length cap)(hk:Cg w q k)(hq:q=none→cap=0)
  (hn:l.length+k.length≤1000000)(Lx:base≤w.heap.size)
  (h:∀ v' w',Bp w' base v' (l++k)→w.grownBy w' v.ownBlock→(v'.ownBlock=v.ownBlock∨v'.ownBlock=some w.heap.size)→wpList prog ops Q rest (a.put o.dst v') w'):
  wpList prog ops Q (o :: rest) a w:=by
 obtain⟨i0,Ba,AQ,AU,AV⟩:=Du ad2;cases q with
 |none=>
  obtain rfl:k=[]:=by
   cases k with
   |nil=>rfl
   |cons y k=>
    obtain⟨p,hp,_⟩:=hk 0 (by simp);cases hp
  rw[hq rfl] at hx;refine wpList_append_own_none O4 s x _ ho base 9 i0 1 underlying27 Ba v l.length (strCells l) hs hown hx ?_;exact h v w (by rw[EH];exact hown) (World.grownBy.refl w _) (.inl rfl)
 |some ad=>
  refine wpList_append_own_at w O4 s x _ ho base 9 i0 _ 1 16 underlying27 Ba AQ AU AV rfl (by decide) v l.length (strCells l) hs hown ad k.length cap (strCells k) hx (by rw[Nat.mul_one];simp[strCells]) (fun j u hu=>?_) (fun u hu=>?_) (by unfold maxLen;omega) (by omega) Lx ?_
  ·have hj:j < k.length:=by
    have:=(Uw.1 hu).1;simpa[strCells] using this
   obtain⟨p,hp,hc⟩:=hk j hj;cases hp;rw[XL k j hj] at hu;rw[hc,hu]
  ·unfold strCells at hu;obtain⟨y,_,rfl⟩:=Bz.1 hu;rfl
  ·intro v' w' h1 h2 _ h4;refine h v' w' ?_ h2 h4;unfold Bp;rw[Au,show strCells (l++k)=strCells l++strCells k by unfold strCells;rw[CF]];exact h1
section
variable {w w1:World}{b y n N:Nat}{bl:Nat→Prop}{A:M}
end
end Man
namespace Man
open Go.RowKit Go.Maps Wal Fil
attribute [local go_sem] Om
theorem Uj{F:Nat→Prop}{W W':World}(hu:A7 F W W')(hF:∀ k o,F k→W.heap[k]?=some o→o.isCells=true):KeepsOthers W W':=
 ⟨hu.size,fun k o hk ho=>(hu.block k (CR.1 hk).1 (fun f=>by have:=hF k o f hk;rw[ho] at this;cases this)).trans hk⟩
section
variable {w W W1 W2:World}{cB:Nat}{M:Array Value}{l:List Aj}{v:Value}
end
end Man
namespace Prs
open Go.Lib Fil Man Wal
theorem dJ{a b:T}:¬ a < b↔b≤a:=List.not_lt
theorem kF{a b:T}(h:a < b):a≤b:=dJ.1 (Qr h)
theorem aw9{a b c:T}(h:a < b)(k:b≤c):a < c:=by
 rcases Zr k with e|e
 ·exact XA h e
 ·rw[←e];exact h
def Cr(l:M):Prop:=l.Pairwise (fun a b=>a.1≤b.1)
instance (l:M):Decidable (Cr l):=inferInstanceAs (Decidable (l.Pairwise _))
theorem Cr.Qt{l:M}(h:Up l):Cr l:=h.imp kF
def mrg:M→M→M
 |[],b=>b
 |x :: a,[]=>x :: a
 |x :: a,y :: b=>if y.1 < x.1 then y :: mrg (x :: a) b else x :: mrg a (y :: b)
termination_by a b=>a.length+b.length
theorem sH(a:M):mrg a []=a:=by cases a<;>simp[mrg]
theorem kM(b:M):mrg [] b=b:=by simp[mrg]
theorem kJ(x y:T×T)(a b:M):mrg (x :: a) (y :: b)=if y.1 < x.1 then y :: mrg (x :: a) b else x :: mrg a (y :: b):=by rw[mrg]
theorem Zw:∀ (n:Nat) (a b:M),a.length+b.length≤n→(mrg a b).Perm (a++b)
 |_,[],b,_=>by rw[kM];exact List.Perm.refl _
 |_,x :: a,[],_=>by rw[sH,EH]
 |0,x :: a,y :: b,h=>by simp at h
 |n+1,x :: a,y :: b,h=>by
  rw[kJ];split
  ·refine(List.Perm.cons y (Zw n (x :: a) b (by simp at h ⊢;omega))).trans ?_;exact(List.perm_middle (l₁:=x :: a)).symm
  ·exact List.Perm.cons x (Zw n a (y :: b) (by simp at h ⊢;omega))
theorem sI:∀ (n:Nat) (a b:M),a.length+b.length≤n→Cr a→Cr b→Cr (mrg a b)
 |_,[],b,_,_,hb=>by rw[kM];exact hb
 |_,x :: a,[],_,ha,_=>by rw[sH];exact ha
 |0,x :: a,y :: b,h,_,_=>by simp at h
 |n+1,x :: a,y :: b,h,ha,hb=>by
  obtain⟨a1,a2⟩:=Iw.1 ha;obtain⟨b1,b2⟩:=Iw.1 hb;rw[kJ];split
  ·rename_i hlt
   refine Iw.2 ⟨fun z hz=>?_,sI n (x :: a) b (by simp at h ⊢;omega) ha b2⟩;rcases Fp.1 ((Zw (n+1) (x :: a) b (by simp at h ⊢;omega)).mem_iff.1 hz) with e|e
   ·rcases Bt.1 e with rfl|e
    ·exact kF hlt
    ·exact List.le_trans (kF hlt) (a1 z e)
   ·exact b1 z e
  ·rename_i hlt
   refine Iw.2 ⟨fun z hz=>?_,sI n a (y :: b) (by simp at h ⊢;omega) a2 hb⟩;rcases Fp.1 ((Zw (n+1) a (y :: b) (by simp at h ⊢;omega)).mem_iff.1 hz) with e|e
   ·exact a1 z e
   ·rcases Bt.1 e with rfl|e
    ·exact dJ.1 hlt
    ·exact List.le_trans (dJ.1 hlt) (b1 z e)
def EG(l:M):M:=if h:l.length < 2 then l else mrg (EG (l.take (l.length / 2))) (EG (l.drop (l.length / 2)))
termination_by l.length
decreasing_by
 ·rw[AL];omega
 ·rw[Ce];omega
theorem ed{l:M}(h:l.length < 2):EG l=l:=by rw[EG,dif_pos h]
theorem acY{l:M}(h:¬ l.length < 2):EG l=mrg (EG (l.take (l.length / 2))) (EG (l.drop (l.length / 2))):=by rw[EG,dif_neg h]
theorem uj:∀ (n:Nat) (l:M),l.length≤n→(EG l).Perm l∧Cr (EG l)
 |0,l,h=>by
  obtain rfl:l=[]:=Ld.1 (by omega);rw[ed (by simp)];exact⟨List.Perm.refl _,List.Pairwise.nil⟩
 |n+1,l,h=>by
  by_cases h2:l.length < 2
  ·rw[ed h2];refine⟨List.Perm.refl _,?_⟩
   match l,h2 with
   |[],_=>exact List.Pairwise.nil
   |[x],_=>exact Tf _ _
  ·rw[acY h2];obtain⟨p1,s1⟩:=uj n (l.take (l.length / 2)) (by rw[AL];omega);obtain⟨p2,s2⟩:=uj n (l.drop (l.length / 2)) (by rw[Ce];omega);refine⟨?_,sI _ _ _ (Ac _) s1 s2⟩;have:=(Zw _ (EG (l.take (l.length / 2))) (EG (l.drop (l.length / 2))) (Ac _)).trans (p1.append p2);rwa[M4] at this
theorem ll(l:M):(EG l).Perm l:=(uj _ l (Ac _)).1
theorem amV(l:M):Cr (EG l):=(uj _ l (Ac _)).2
theorem dZ(l:M):(EG l).length=l.length:=(ll l).length_eq
theorem awC(a b:M):(mrg a b).length=a.length+b.length:=by rw[(Zw _ a b (Ac _)).length_eq,Au]
theorem uH{l:M}(h:Cr l)(hn:(l.map (·.1)).Nodup):Up l:=by
 induction l with
 |nil=>exact Up.nil
 |cons x l ih=>
  obtain⟨h1,h2⟩:=Iw.1 h;obtain⟨n1,n2⟩:=JF.1 hn;refine Iw.2 ⟨fun z hz=>?_,ih h2 n2⟩;rcases Zr (h1 z hz) with e|e
  ·exact e
  ·exact absurd (Gm (f:=(·.1)) hz) (by rw[←e];exact n1)
theorem amZ{l:M}(h:Up l):EG l=l:=
 ZQ (uH (amV l) (((ll l).map (·.1)).nodup_iff.2 h.nodup)) h (fun _=>(ll l).mem_iff)
theorem awD{l:M}(h:Up l)(k v:T):mrg (del k l) [(k,v)]=put k v l:=by
 have hp:=Zw _ (del k l) [(k,v)] (Ac _);have hd:=h.del k;refine ZQ (uH (sI _ _ _ (Ac _) (Cr.Qt hd) (Tf _ _)) ?_) (h.put k v) fun p=>?_
 ·rw[(hp.map (·.1)).nodup_iff,CF,List.nodup_append];refine⟨hd.nodup,by simp,fun a ha b hb=>?_⟩;simp only[BL,List.map_nil,EX] at hb;subst hb;obtain⟨q,hq,rfl⟩:=Bz.1 ha;exact(XB.1 hq).2
 ·rw[hp.mem_iff,SV h,Fp,XB,EX];exact⟨fun e=>e.elim .inr .inl,fun e=>e.elim .inr .inl⟩
def Dx(l:M):List T:=AX (l.map (·.1))
theorem azT{a b c:List T}(ha:Jq a)(hb:Jq b)(hc:Jq c)(h:∀ x,x∈a↔x∈b∨x∈c)(hd:∀ x,x∈b→x∈c→False):a.length=b.length+c.length:=by
 have nd:∀ {l:List T},Jq l→l.Nodup:=fun hl=>by rw[List.nodup_iff_pairwise_ne];exact hl.imp fun h=>L6 h
 rw[←Au];refine List.Perm.length_eq ?_;refine(List.perm_ext_iff_of_nodup (nd ha) ?_).2 fun x=>by rw[h x,Fp]
 rw[List.nodup_append];exact⟨nd hb,nd hc,fun x hx y hy e=>hd x hx (by rw[e];exact hy)⟩
theorem amb(l:List T):(AX l).length=l.length↔l.Nodup:=by
 constructor
 ·induction l with
  |nil=>exact fun _=>List.nodup_nil
  |cons x l ih=>
   intro h;have hle:=Un l;by_cases hx:x∈l
   ·have e:AX (x :: l)=AX l:=Qw (Iq _) (Iq _) fun z=>by
     rw[Eg,Eg,Bt];exact⟨fun e=>e.elim (fun e=>by rw[e];exact hx) id,.inr⟩
    rw[e,Br] at h;omega
   ·have e:=azT (Iq (x :: l)) (Tf _ x) (Iq l) (fun z=>by rw[Eg,Eg,Bt,EX]) (fun z h1 h2=>hx (by rw[EX] at h1;rw[←h1];exact(Eg _ _).1 h2));rw[h,Br,Kq] at e;exact JF.2 ⟨hx,ih (by omega)⟩
 ·intro h;refine List.Perm.length_eq ?_;refine(List.perm_ext_iff_of_nodup ?_ h).2 fun x=>Eg l x
  rw[List.nodup_iff_pairwise_ne];exact(Iq l).imp fun h=>L6 h
theorem akt{l:M}(h:Cr l):(Dx l).length=l.length↔Up l:=by
 have:=amb (l.map (·.1));rw[Cf] at this;unfold Dx;rw[this];exact⟨uH h,Up.nodup⟩
def heads:M→List T
 |[]=>[]
 |x :: l=>x.1 :: heads (l.dropWhile fun y=>decide (y.1=x.1))
termination_by l=>l.length
decreasing_by
 have:=(List.dropWhile_sublist (l:=l) fun y=>decide (y.1=x.1)).length_le;simp only[Br];omega
theorem aie:heads []=[]:=by rw[heads]
theorem aid(x:T×T)(l:M):heads (x :: l)=x.1 :: heads (l.dropWhile fun y=>decide (y.1=x.1)):=by rw[heads]
theorem al2{α:Type}(p:α→Bool):∀ {l:List α} {x:α},x∈l.takeWhile p→p x=true
 |[],x,h=>by simp at h
 |y :: l,x,h=>by
  rw[List.takeWhile_cons] at h;split at h
  ·rename_i hy
   rcases Bt.1 h with rfl|h
   ·exact hy
   ·exact al2 p h
  ·simp at h
theorem aif:∀ (n:Nat) (l:M),l.length≤n→Cr l→Jq (heads l)∧∀ k,k∈heads l↔∃ p∈l,p.1=k
 |_,[],_,_=>by rw[aie];exact⟨List.Pairwise.nil,fun k=>by simp⟩
 |0,x :: l,h,_=>by simp at h
 |n+1,x :: l,h,hs=>by
  obtain⟨s1,s2⟩:=Iw.1 hs;rw[aid];have Qj:=List.dropWhile_sublist (l:=l) fun y=>decide (y.1=x.1)
  have hl:=Qj.length_le;obtain⟨i1,i2⟩:=aif n _ (by simp at h;omega) (s2.sublist Qj);have Gy:∀ z∈l.dropWhile (fun y=>decide (y.1=x.1)),x.1 < z.1:=by
   intro z hz;have hne:l.dropWhile (fun y=>decide (y.1=x.1))≠[]:=List.ne_nil_of_mem hz;cases hd:l.dropWhile (fun y=>decide (y.1=x.1)) with
   |nil=>exact absurd hd hne
   |cons w r=>
    have hw:w.1≠x.1:=by
     have:=List.head_dropWhile_not (fun y:T×T=>decide (y.1=x.1)) hne;simp only[hd,List.head_cons] at this;simpa using this
    have Xv:x.1 < w.1:=by
     rcases Zr (s1 w (Qj.subset (by rw[hd];simp))) with e|e
     ·exact e
     ·exact absurd e.symm hw
    rw[hd] at hz;have hr:Cr (w :: r):=(by rw[←hd];exact s2.sublist Qj);rcases Bt.1 hz with rfl|hz
    ·exact Xv
    ·exact aw9 Xv ((Iw.1 hr).1 z hz)
  refine⟨Iw.2 ⟨fun k hk=>?_,i1⟩,fun k=>?_⟩
  ·obtain⟨p,hp,rfl⟩:=(i2 k).1 hk;exact Gy p hp
  ·rw[Bt,i2 k];constructor
   ·rintro(rfl|⟨p,hp,rfl⟩)
    ·exact⟨x,by simp,rfl⟩
    ·exact⟨p,DT _ (Qj.subset hp),rfl⟩
   ·rintro⟨p,hp,rfl⟩;rcases Bt.1 hp with rfl|hp
    ·exact .inl rfl
    ·by_cases e:p.1=x.1
     ·exact .inl e
     ·refine .inr ⟨p,?_,rfl⟩;rw[←List.takeWhile_append_dropWhile (p:=fun y:T×T=>decide (y.1=x.1)) (l:=l)] at hp;rcases Fp.1 hp with hp|hp
      ·have:=al2 _ hp;exact absurd (by simpa using this) e
      ·exact hp
theorem au2(l:M):heads (EG l)=Dx l:=by
 obtain⟨h1,h2⟩:=aif _ (EG l) (Ac _) (amV l);refine Qw h1 (Iq _) fun k=>?_
 show _↔k∈AX (l.map (·.1))
 rw[h2 k,Eg,Bz];exact⟨fun⟨p,hp,e⟩=>⟨p,(ll l).mem_iff.1 hp,e⟩,fun⟨p,hp,e⟩=>⟨p,(ll l).mem_iff.2 hp,e⟩⟩
def flat(l:M):List T:=l.flatMap fun p=>[p.1,p.2]
def unflat:List T→M
 |a :: b :: l=>(a,b) :: unflat l
 |_=>[]
theorem WN(p:T×T)(l:M):flat (p :: l)=p.1 :: p.2 :: flat l:=rfl
theorem zu(a b:M):flat (a++b)=flat a++flat b:=by unfold flat;rw[NA]
theorem oO(l:M):(flat l).length=2*l.length:=by
 induction l with
 |nil=>rfl
 |cons p l ih=>rw[WN,Br,Br,ih,Br];omega
theorem uG:∀ l:M,unflat (flat l)=l
 |[]=>rfl
 |p :: l=>by rw[WN,unflat,uG l]
theorem agF:∀ (n:Nat) (l:List T),l.length=2*n→flat (unflat l)=l∧(unflat l).length=n
 |0,l,h=>by
  obtain rfl:l=[]:=Ld.1 (by omega);exact⟨rfl,rfl⟩
 |n+1,l,h=>by
  match l,h with
  |a :: b :: l,h=>
   obtain⟨h1,h2⟩:=agF n l (by simp at h;omega);rw[unflat,WN,h1,Br,h2];exact⟨rfl,rfl⟩
def Fh(l:M):Option T:=if l.length≤65535 then(textsE (flat l)).map (Crc.le 2 l.length++ ·) else none
def GN(s:T):Option M:=if s.length < 2 then none else
 (readTs (2*Crc.val (s.take 2)) (s.drop 2)).bind fun q=>if q.2=[]∧Cr (unflat q.1) then some (unflat q.1) else none
theorem am2:∀ (l:List T) (a r:T),textsE l=some a→readTs l.length (a++r)=some (l,r)
 |[],a,r,h=>by
  simp only[textsE,BX] at h;subst h;rfl
 |s :: l,a,r,h=>by
  simp only[textsE] at h;cases h1:DJ s with
  |none=>rw[h1] at h;cases h
  |some x=>
   cases h2:textsE l with
   |none=>rw[h1,h2] at h;cases h
   |some y=>
    rw[h1,h2] at h;simp only[Cj,Ej,BX] at h;subst h;unfold DJ at h1;split at h1
    ·rename_i hs
     simp only[BX] at h1;subst h1;have hv:Crc.val ((Crc.le 2 s.length++s++y++r).take 2)=s.length:=by
      rw[Dp,Dp,Iz (Crc.BK _ _),Crc.uL];exact Nat.mod_eq_of_lt (by omega)
     have Oc:Ie (Crc.le 2 s.length++s++y++r)=some (s,2+s.length):=by
      unfold Ie;rw[hv,Aa (by simp[Crc.BK]),Ab (by simp[Crc.BK])];have:(Crc.le 2 s.length++s++y++r).take (2+s.length)=Crc.le 2 s.length++s:=by
       rw[Dp,Iz (by rw[Au,Crc.BK])]
      rw[this,M0 (Crc.BK _ _)]
     show(Ie (Crc.le 2 s.length++s++y++r)).bind _=_
     rw[Oc];simp only[Cj];have:(Crc.le 2 s.length++s++y++r).drop (2+s.length)=y++r:=by
      rw[Dp,M0 (by rw[Au,Crc.BK])]
     rw[this,am2 l y r h2];rfl
    ·cases h1
theorem p8{l:M}{s:T}(h:Fh l=some s)(hs:Cr l):GN s=some l:=by
 unfold Fh at h;split at h
 ·rename_i hl
  cases h1:textsE (flat l) with
  |none=>rw[h1] at h;cases h
  |some a=>
   rw[h1] at h;simp only[Ej,BX] at h;subst h;have hv:Crc.val ((Crc.le 2 l.length++a).take 2)=l.length:=by
    rw[Iz (Crc.BK _ _),Crc.uL];exact Nat.mod_eq_of_lt (by omega)
   unfold GN;rw[hv,Aa (by simp[Crc.BK]),M0 (Crc.BK _ _)];have:=am2 (flat l) a [] h1;rw[EH,oO] at this;rw[this];simp only[Cj];rw[uG,Ab ⟨trivial,hs⟩]
 ·cases h
theorem agY{s:T}{l:M}(h:GN s=some l):Cr l∧Fh l=some s:=by
 unfold GN at h;split at h
 ·cases h
 ·rename_i h2
  cases h1:readTs (2*Crc.val (s.take 2)) (s.drop 2) with
  |none=>rw[h1] at h;cases h
  |some q=>
   rw[h1] at h;simp only[Cj] at h;split at h
   ·rename_i hq
    simp only[BX] at h;obtain⟨e1,a,e2,e3⟩:=acB (l:=q.1) (r:=q.2) h1;obtain⟨f1,f2⟩:=agF _ q.1 e1;rw[hq.1,EH] at e3;subst h;have hv:Crc.val (s.take 2) < 256 ^ 2:=by
     have:=Crc.Ji (s.take 2);rwa[AL,H8 (by omega)] at this
    have e:Crc.le 2 (Crc.val (s.take 2))=s.take 2:=by
     have:=Crc.kD (s.take 2);rwa[AL,H8 (by omega)] at this
    refine⟨hq.2,?_⟩;unfold Fh;rw[f2,Ab (by omega),f1,e2];simp only[Ej];rw[e,e3,M4]
   ·cases h
def BG(l:M):Option T:=(Fh l).bind fun s=>if s.length+4≤65535 then some (Crc.EW s) else none
def dR(nm:T→T)(ok:T×T→Prop)[DecidablePred ok](name data:T):Option M:=
 if(Crc.Er data).2=0 then(GN (Crc.Er data).1).bind fun l=>if l≠[]∧(Dx l).length=l.length∧∀ p∈l,nm p.1=name∧ok p then some l else none else none
theorem axS{nm:T→T}{ok:T×T→Prop}[DecidablePred ok]{name data:T}{l:M}(h:dR nm ok name data=some l):l≠[]∧Up l∧(∀ p∈l,nm p.1=name∧ok p)∧∃ s,Fh l=some s∧data=Crc.EW s:=by
 unfold dR at h;split at h
 ·rename_i h0
  cases h1:GN (Crc.Er data).1 with
  |none=>rw[h1] at h;cases h
  |some k=>
   rw[h1] at h;simp only[Cj] at h;split at h
   ·rename_i hk
    simp only[BX] at h;subst h;obtain⟨g1,g2⟩:=agY h1;exact⟨hk.1,(akt g1).1 hk.2.1,hk.2.2,_,g2,(Crc.acf h0).symm⟩
   ·cases h
 ·cases h
theorem alY{nm:T→T}{ok:T×T→Prop}[DecidablePred ok]{name d:T}{l:M}(h:BG l=some d)(hl:l≠[])(hu:Up l)(hn:∀ p∈l,nm p.1=name∧ok p):dR nm ok name d=some l:=by
 unfold BG at h;cases h1:Fh l with
 |none=>rw[h1] at h;cases h
 |some s=>
  rw[h1] at h;simp only[Cj] at h;split at h
  ·simp only[BX] at h;subst h;unfold dR;rw[Crc.acg,Ab rfl];simp only;rw[p8 h1 (Cr.Qt hu)];simp only[Cj];rw[Ab ⟨hl,(akt (Cr.Qt hu)).2 hu,hn⟩]
  ·cases h
end Prs
namespace Kp
open Go.Lib Fil Man Wal Prs
structure Kind where
 nm:T→T
 ours:T→Bool
 ok:T×T→Bool
structure Kind.BM(K:Kind):Prop where
 ZA:∀ k,K.ours (K.nm k)=true
 len:∀ k,(K.nm k).length=17
section
variable {K:Kind}{A:M}
def Kind.Df(K:Kind)(name data:T):Option M:=dR K.nm (fun p=>K.ok p=true) name data
def fileOf(K:Kind)(A:M)(name:T):Option M:=(get A name).bind (K.Df name)
def Dk(K:Kind)(A:M)(k:T):Option T:=(fileOf K A (K.nm k)).bind fun l=>get l k
def Ed(K:Kind)(A:M):M:=A.flatMap fun p=>if K.ours p.1=true then(K.Df p.1 p.2).getD [] else[]
def Bj(K:Kind)(A:M):List T:=Dx (Ed K A)
theorem Pj{name data:T}{l:M}(h:K.Df name data=some l):l≠[]∧Up l∧(∀ p∈l,K.nm p.1=name∧K.ok p=true)∧∃ s,Fh l=some s∧data=Crc.EW s:=axS h
theorem dE(hK:K.BM)(hu:Up A)(k v:T):(k,v)∈Ed K A↔Dk K A k=some v:=by
 unfold Ed;rw[MM];constructor
 ·rintro⟨p,hp,hm⟩;split at hm
  ·cases hr:K.Df p.1 p.2 with
   |none=>rw[hr] at hm;simp at hm
   |some l=>
    rw[hr] at hm;simp only[Option.getD_some] at hm;obtain⟨_,h2,h3,_⟩:=Pj hr;have hn:K.nm k=p.1:=(h3 _ hm).1;unfold Dk fileOf;rw[hn,get_mem hu (show(p.1,p.2)∈A from hp)];simp only[Cj];rw[hr];simp only[Cj];exact get_mem h2 hm
  ·simp at hm
 ·intro h;unfold Dk fileOf at h;cases hg:get A (K.nm k) with
  |none=>rw[hg] at h;cases h
  |some d=>
   rw[hg] at h;simp only[Cj] at h;cases hr:K.Df (K.nm k) d with
   |none=>rw[hr] at h;cases h
   |some l=>
    rw[hr] at h;simp only[Cj] at h;refine⟨(K.nm k,d),get_some hg,?_⟩;rw[Ab (hK.ZA k),hr];exact get_some h
theorem Qs(hK:K.BM)(hu:Up A)(k:T):k∈Bj K A↔(Dk K A k).isSome=true:=by
 unfold Bj Dx;rw[Eg,Bz];constructor
 ·rintro⟨p,hp,rfl⟩;rw[(dE hK hu p.1 p.2).1 hp];rfl
 ·intro h;obtain⟨v,hv⟩:=MN.1 h;exact⟨(k,v),(dE hK hu k v).2 hv,rfl⟩
theorem avE:Jq (Bj K A):=Iq _
theorem zi:∀ {A:M},Up A→((Ed K A).map (·.1)).Nodup
 |[],_=>by simp[Ed]
 |p :: A,h=>by
  obtain⟨h1,h2⟩:=Iw.1 h;have ih:=zi h2;unfold Ed at ih ⊢;rw[List.flatMap_cons,CF,List.nodup_append];refine⟨?_,ih,fun a ha b hb=>?_⟩
  ·split
   ·cases hr:K.Df p.1 p.2 with
    |none=>simp
    |some l=>exact(Pj hr).2.1.nodup
   ·simp
  ·rintro rfl;obtain⟨x,hx,rfl⟩:=Bz.1 ha;obtain⟨y,hy,e⟩:=Bz.1 hb;have n1:K.nm x.1=p.1:=by
    split at hx
    ·cases hr:K.Df p.1 p.2 with
     |none=>rw[hr] at hx;simp at hx
     |some l=>rw[hr] at hx;exact((Pj hr).2.2.1 _ hx).1
    ·simp at hx
   obtain⟨q,hq,hy⟩:=MM.1 hy;have n2:K.nm y.1=q.1:=by
    split at hy
    ·cases hr:K.Df q.1 q.2 with
     |none=>rw[hr] at hy;simp at hy
     |some l=>rw[hr] at hy;exact((Pj hr).2.2.1 _ hy).1
    ·simp at hy
   have:=h1 q hq;rw[←n1,←n2,e] at this;exact Rf _ this
theorem Re(hu:Up A):(Bj K A).length=(Ed K A).length:=by
 have:=(amb ((Ed K A).map (·.1))).2 (zi hu);rw[Cf] at this;exact this
def GG(K:Kind)(A:M)(ks:List T)(name:T):M:=((fileOf K A name).getD []).filter fun p=>decide (p.1∉ks)
def V6(K:Kind)(A:M)(ks:List T)(name:T):Aj:=if GG K A ks name=[] then⟨name,[],true⟩ else⟨name,(BG (GG K A ks name)).getD [],false⟩
def EM(K:Kind)(A:M)(ks:List T):List Aj:=(AX (ks.map K.nm)).map (V6 K A ks)
theorem om(ks:List T)(name:T):(V6 K A ks name).name=name:=by unfold V6;split<;>rfl
theorem ani{l k:M}(h:k.Sublist l):∀ {a:T},textsE (flat l)=some a→∃ b,textsE (flat k)=some b∧b.length≤a.length:=by
 induction h with
 |slnil=>exact fun {a} h=>⟨a,h,Ac _⟩
 | @cons k' l' x h ih=>
  intro a ha;rw[WN] at ha;simp only[textsE] at ha;cases h1:DJ x.1 with
  |none=>rw[h1] at ha;cases ha
  |some u=>
   cases h2:DJ x.2 with
   |none=>rw[h1,h2] at ha;cases ha
   |some v=>
    cases h3:textsE (flat l') with
    |none=>rw[h1,h2,h3] at ha;cases ha
    |some c=>
     rw[h1,h2,h3] at ha;simp only[Cj,Ej,BX] at ha;subst ha;obtain⟨b,hb,hl⟩:=ih h3;exact⟨b,hb,by simp only[Au];omega⟩
 | @cons_cons k' l' x h ih=>
  intro a ha;rw[WN] at ha ⊢;simp only[textsE] at ha ⊢;cases h1:DJ x.1 with
  |none=>rw[h1] at ha;cases ha
  |some u=>
   cases h2:DJ x.2 with
   |none=>rw[h1,h2] at ha;cases ha
   |some v=>
    cases h3:textsE (flat l') with
    |none=>rw[h1,h2,h3] at ha;cases ha
    |some c=>
     rw[h1,h2,h3] at ha;simp only[Cj,Ej,BX] at ha;subst ha;obtain⟨b,hb,hl⟩:=ih h3;rw[hb];simp only[Cj,Ej];exact⟨_,rfl,by simp only[Au];omega⟩
theorem aqF{l k:M}(h:k.Sublist l){s:T}(hs:Fh l=some s)(hl:s.length+4≤65535):∃ d,BG k=some d∧d.length≤s.length+4:=by
 unfold Fh at hs;split at hs
 ·rename_i hn
  cases h1:textsE (flat l) with
  |none=>rw[h1] at hs;cases hs
  |some a=>
   rw[h1] at hs;simp only[Ej,BX] at hs;subst hs;obtain⟨b,hb,De⟩:=ani h h1;have Db:=h.length_le;rw[Au,Crc.BK] at hl;unfold BG Fh;rw[Ab (by omega),hb];simp only[Ej,Cj];rw[Ab (by rw[Au,Crc.BK];omega)];exact⟨_,rfl,by rw[Crc.Rk,Au,Au,Crc.BK,Crc.BK];omega⟩
 ·cases hs
def There(K:Kind)(A:M)(ks:List T):Prop:=∀ k∈ks,(Dk K A k).isSome=true
theorem agy{ks:List T}(h:There K A ks){name:T}(hn:name∈AX (ks.map K.nm)):∃ d l,get A name=some d∧K.Df name d=some l∧fileOf K A name=some l:=by
 rw[Eg] at hn;obtain⟨k,hk,rfl⟩:=Bz.1 hn;have h1:=h k hk;unfold Dk at h1;cases hf:fileOf K A (K.nm k) with
 |none=>rw[hf] at h1;simp at h1
 |some l=>
  have hf':=hf;unfold fileOf at hf;cases hg:get A (K.nm k) with
  |none=>rw[hg] at hf;cases hf
  |some d=>
   rw[hg] at hf;exact⟨d,l,rfl,hf,rfl⟩
theorem iq(hg:Fil.Good A){ks:List T}(h:There K A ks){name:T}(hn:name∈AX (ks.map K.nm)):
  ∃ d l,get A name=some d∧K.Df name d=some l∧fileOf K A name=some l∧(V6 K A ks name).data.length≤d.length∧
   ((l.filter (fun p=>decide (p.1∉ks))=[]∧V6 K A ks name=⟨name,[],true⟩)∨
    ∃ s,l.filter (fun p=>decide (p.1∉ks))≠[]∧BG (l.filter fun p=>decide (p.1∉ks))=some s∧V6 K A ks name=⟨name,s,false⟩∧s.length≤65535):=by
 obtain⟨d,l,h1,h2,h3⟩:=agy h hn;obtain⟨_,hu,Jw,s,hs,hd⟩:=Pj h2;have Nj:d.length≤65535:=by
  have:=hg _ (get_some h1);unfold Fw at this;simp at this;exact this.2.2
 have Cz:s.length+4=d.length:=by rw[hd,Crc.Rk]
 obtain⟨c,hc,BH⟩:=aqF (List.filter_sublist (p:=fun p:T×T=>decide (p.1∉ks)) (l:=l)) hs (by omega);refine⟨d,l,h1,h2,h3,?_,?_⟩
 ·unfold V6 GG;rw[h3];simp only[Option.getD_some];split
  ·exact AB _
  ·rw[hc];simp only[Option.getD_some];omega
 ·unfold V6 GG;rw[h3];simp only[Option.getD_some];split
  ·rename_i e
   exact .inl ⟨e,rfl⟩
  ·rename_i e
   exact .inr ⟨c,e,hc,by rw[hc];rfl,by omega⟩
theorem aA3{F:M}(hu:Up F)(c:Aj){d:T}(hg:get F c.name=some d)(hl:c.data.length≤d.length):used (Aj.on F c)≤used F:=by
 have hm:=get_some hg;have qC:(del c.name F |>.map cost).sum+cost (c.name,d)=(F.map cost).sum:=by
  have e:(put c.name d F)=F:=ZQ (hu.put _ _) hu fun p=>by
   rw[SV hu];constructor
   ·rintro(rfl|⟨h,_⟩)
    ·exact hm
    ·exact h
   ·intro hp;by_cases e:p.1=c.name
    ·refine .inl ?_;have h1:=get_mem hu (show(p.1,p.2)∈F from hp);rw[e,hg] at h1;injection h1 with h1
     rw[←e,h1]
    ·exact .inr ⟨hp,e⟩
  have:=((ZF (v:=d) hu c.name).map cost).sum_nat;rw[e,BL,Dq] at this;omega
 unfold Aj.on used;split
 ·omega
 ·have hp:=((ZF (v:=c.data) hu c.name).map cost).sum_nat;rw[hp,BL,Dq];unfold cost at qC ⊢;simp only at qC ⊢;omega
theorem anH:∀ {l:List Aj} {F:M},Up F→(l.map (·.name)).Nodup→(∀ c∈l,∃ d,get F c.name=some d∧c.data.length≤d.length)→used (made F l)≤used F
 |[],F,_,_,_=>Ac _
 |c :: l,F,hu,hn,h=>by
  obtain⟨n1,n2⟩:=JF.1 hn;obtain⟨d,h1,h2⟩:=h c (by simp);refine Ap (anH (F:=Aj.on F c) (hu.on c) n2 fun x hx=>?_) (aA3 hu c h1 h2);obtain⟨e,h3,h4⟩:=h x (DT _ hx);have hne:x.name≠c.name:=fun e=>n1 (show c.name∈l.map (·.name) from by rw[←e];exact Gm hx)
  refine⟨e,?_,h4⟩;unfold Aj.on;split
  ·rw[pq hu,Aa hne,h3]
  ·rw[get_put hu,Aa hne,h3]
theorem il(ks:List T):(EM K A ks).map (·.name)=AX (ks.map K.nm):=by
 unfold EM;rw[List.map_map]
 conv=>rhs;rw[←List.map_id (AX (ks.map K.nm))]
 exact QB fun x _=>om ks x
theorem ZI(l:List T):(AX l).Nodup:=by
 rw[List.nodup_iff_pairwise_ne];exact(Iq l).imp fun h=>L6 h
theorem oo(hK:K.BM){n:Nat}(hu:Up A)(hg:Fil.Good A)(hr:used A≤C8 n){ks:List T}(h:There K A ks):Gu n A (EM K A ks)=0∧F9 n A (EM K A ks)=made A (EM K A ks)∧used (made A (EM K A ks))≤used A∧(∀ c∈EM K A ks,c.may=true):=by
 have Nn:∀ c∈EM K A ks,c.may=true:=by
  intro c hc;unfold EM at hc;obtain⟨name,hn,rfl⟩:=Bz.1 hc;obtain⟨d,l,h1,h2,h3,h4,h5⟩:=iq hg h hn;have hl:name.length=17:=by
   rw[Eg] at hn;obtain⟨k,_,rfl⟩:=Bz.1 hn;exact hK.len k
  have hne:name≠[]:=fun e=>by rw[e] at hl;cases hl
  rcases h5 with⟨_,e⟩|⟨s,_,_,e,Cz⟩
  ·rw[e];unfold Aj.may Fw;simp[hne,hl]
  ·rw[e];unfold Aj.may Fw;simp[hne,hl,Cz]
 have GD:used (made A (EM K A ks))≤used A:=anH hu (by rw[il];exact ZI _) fun c hc=>by
  unfold EM at hc;obtain⟨name,hn,rfl⟩:=Bz.1 hc;obtain⟨d,l,h1,h2,h3,h4,h5⟩:=iq hg h hn;exact⟨d,by rw[om];exact h1,h4⟩
 have AY:(EM K A ks).all Aj.may=true:=by rw[Nz];exact Nn
 refine⟨?_,?_,GD,Nn⟩
 ·unfold Gu;rw[AY,Aa (by simp),Aa (by omega)]
 ·unfold F9;rw[Ab ⟨AY,by omega⟩]
theorem as1{l:List Aj}(hn:(l.map (·.name)).Nodup){c:Aj}(hc:c∈l):l.reverse.find? (fun x=>x.name == c.name)=some c:=by
 have hr:(l.reverse.map (·.name)).Nodup:=by rw[List.map_reverse];exact(List.reverse_perm _).nodup_iff.2 hn
 have Ni:c∈l.reverse:=List.mem_reverse.2 hc;generalize l.reverse=r at*
 induction r with
 |nil=>simp at Ni
 |cons x r ih=>
  obtain⟨n1,n2⟩:=JF.1 hr;rcases Bt.1 Ni with e|e
  ·subst e;simp
  ·have:x.name≠c.name:=fun e'=>n1 (show x.name∈r.map (·.name) from by rw[e'];exact Gm e)
   rw[List.find?_cons_of_neg (by simpa using this)];exact ih n2 e
theorem ah2{F:M}(hu:Up F){l:List Aj}(hn:(l.map (·.name)).Nodup){c:Aj}(hc:c∈l):get (made F l) c.name=if c.gone then none else some c.data:=by
 rw[get_made hu,as1 hn hc]
theorem ah3{F:M}(hu:Up F){l:List Aj}{k:T}(h:k∉l.map (·.name)):get (made F l) k=get F k:=by
 have:l.reverse.find? (fun c=>c.name == k)=none:=by
  rw[List.find?_eq_none];intro x hx;have:x.name≠k:=fun e=>h (by rw[←e];exact Gm (List.mem_reverse.1 hx))
  simpa using this
 rw[get_made hu,this]
theorem get_filter{l:M}(hu:Up l)(p:T×T→Bool)(k:T):get (l.filter p) k=(get l k).bind fun v=>if p (k,v) then some v else none:=by
 cases hg:get l k with
 |none=>
  rw[get_none] at hg;exact get_none.2 fun x hx=>hg x ((Et.1 hx).1)
 |some v=>
  have hm:=get_some hg;simp only[Cj];split
  ·rename_i hp
   exact get_mem (hu.filter _) (Et.2 ⟨hm,hp⟩)
  ·rename_i hp
   refine get_none.2 fun x hx e=>?_
   obtain⟨h1,h2⟩:=Et.1 hx;have:=get_mem hu (show(x.1,x.2)∈l from h1);rw[e,hg] at this;injection this with this
   rw[this,←e] at hp;exact hp h2
theorem agw{l:List Aj}(hu:Up A){name:T}(h:name∉l.map (·.name)):fileOf K (made A l) name=fileOf K A name:=by
 unfold fileOf;rw[ah3 hu h]
theorem ag2(hu:Up A)(hg:Fil.Good A){ks:List T}(h:There K A ks)(k:T):Dk K (made A (EM K A ks)) k=if k∈ks then none else Dk K A k:=by
 have hnd:((EM K A ks).map (·.name)).Nodup:=by rw[il];exact ZI _
 by_cases hn:K.nm k∈AX (ks.map K.nm)
 ·obtain⟨d,l,h1,h2,h3,h4,h5⟩:=iq hg h hn;obtain⟨_,I9,Jw,_⟩:=Pj h2;have Ms:V6 K A ks (K.nm k)∈EM K A ks:=Gm hn;have Nl:=ah2 hu hnd Ms;rw[om] at Nl;have hv:Dk K A k=get l k:=by unfold Dk;rw[h3];rfl
  rw[hv];have aiu:get (l.filter fun p=>decide (p.1∉ks)) k=if k∈ks then none else get l k:=by
   rw[get_filter I9];cases get l k with
   |none=>simp
   |some v=>by_cases e:k∈ks<;>simp[e]
  rw[←aiu];rcases h5 with⟨e1,e2⟩|⟨s,e0,e1,e2,_⟩
  ·rw[e2] at Nl;unfold Dk fileOf;rw[Nl,e1];rfl
  ·rw[e2] at Nl;simp only[Bool.false_eq_true,if_false] at Nl;unfold Dk fileOf;rw[Nl];simp only[Cj];rw[show K.Df (K.nm k) s=some (l.filter fun p=>decide (p.1∉ks)) from alY e1 e0 (I9.filter _) fun p hp=>Jw p ((Et.1 hp).1)];rfl
 ·have hk:k∉ks:=fun e=>hn ((Eg _ _).2 (Gm e))
  rw[Aa hk];unfold Dk;rw[agw hu (by rw[il];exact hn)]
theorem ag1{K':Kind}(hK:K.BM)(iO:K'.BM)(hd:∀ x,K.ours x=true→K'.ours x=true→False)(hu:Up A)(ks:List T)(k:T):Dk K' (made A (EM K A ks)) k=Dk K' A k:=by
 unfold Dk;rw[agw hu];rw[il,Eg];intro hm;obtain⟨j,_,e⟩:=Bz.1 hm;exact hd _ (hK.ZA j) (by rw[e];exact iO.ZA k)
end
end Kp
end Go.Proofs.YtmbbhdebddbhoaaGreat
