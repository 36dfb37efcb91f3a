/- SweF ChgIn SetP -/
import Derived.Test.YtmbbhdebddbhoaaGreatQ34
set_option maxRecDepth 100000
set_option linter.all false
namespace Go.Proofs.YtmbbhdebddbhoaaGreat
open Tryz
namespace GL
open Go.RowKit Go.Maps
open Wal Fil Man Prs Kp BH Hex Sha Al Mem Dep
def BO(l:M):Nat:=(l.map fun q=>4+q.1.length+q.2.length).sum
theorem dM(l:M):rowLen (flat l)=2+BO l:=by
 unfold rowLen BO
 induction l with
 |nil=>rfl
 |cons p l ih=>
  rw[R9,Bg,Bg,Cx,Cx,Bg,Cx];omega
theorem an8{K:Kind}{name d:T}{l:M}(h:K.Cn name d=some l):BO l≤d.length:=by
 obtain⟨_,_,_,s,h4,h5⟩:=KR h;unfold DX at h4;split at h4
 ·cases ht:textsE (flat l) with
  |none=>rw[ht] at h4;cases h4
  |some a=>
   rw[ht] at h4;simp only[Dm,Bt] at h4;have h6:=Pk ht;rw[dM] at h6;have h7:d.length=s.length+4:=(by rw[h5];unfold Crc.Du;rw[Aj,Crc.Be]);rw[h7,←h4,Aj];omega
 ·cases h4
theorem dN(K:Kind)(A:M):BO (Cm K A)≤(A.map cost).sum:=by
 induction A with
 |nil=>exact Ab _
 |cons p A ih=>
  have e:Cm K (p :: A)=(if K.ours p.1=true then(K.Cn p.1 p.2).getD [] else[])++Cm K A:=rfl;rw[e];unfold BO at ih ⊢;rw[C8,Ht,Bg,Cx];have h1:((if K.ours p.1=true then(K.Cn p.1 p.2).getD [] else[]).map fun q:T×T=>4+q.1.length+q.2.length).sum≤cost p:=by
   unfold cost;split
   ·cases hr:K.Cn p.1 p.2 with
    |none=>exact Ar _
    |some l=>
     have:=an8 hr;unfold BO at this
     show((l.map fun q:T×T=>4+q.1.length+q.2.length).sum)≤_
     omega
   ·exact Ar _
  omega
theorem pK{l:M}{q:T×T}(h:q∈l):4+q.1.length+q.2.length≤BO l:=by
 induction l with
 |nil=>simp at h
 |cons x l ih=>
  show _≤(4+x.1.length+x.2.length)+BO l
  rcases AZ.1 h with rfl|h
  ·omega
  ·have:=ih h;omega
theorem Yf(l:M):4*l.length+(l.map fun p=>p.2.length).sum≤BO l:=by
 induction l with
 |nil=>exact Ab _
 |cons x l ih=>
  show _≤(4+x.1.length+x.2.length)+BO l
  rw[AX,Bg,Cx];omega
theorem Vr:∀ {l:List T} {a:T},textsE l=some a→∀ t∈l,t.length≤65535
 |[],_,_,t,h=>by simp at h
 |x :: l,a,h,t,ht=>by
  simp only[textsE] at h;cases h1:CO x with
  |none=>rw[h1] at h;cases h
  |some y=>
   cases h4:textsE l with
   |none=>rw[h1,h4] at h;cases h
   |some z=>
    rcases AZ.1 ht with rfl|ht
    ·unfold CO at h1;split at h1
     ·assumption
     ·cases h1
    ·exact Vr h4 t ht
theorem an9{s:T}{l:List T}(h:C9 s=some l):∀ t∈l,t.length≤65535:=by
 have h2:=Wj h;unfold Er at h2;split at h2
 ·cases ht:textsE l with
  |none=>rw[ht] at h2;cases h2
  |some a=>exact Vr ht
 ·cases h2
theorem ana{w:World}{b y n N N':Nat}{bl:Nat→Prop}{A A':M}(h:QY w b y bl n N A A')(hN:N≤N'):QY w b y bl n N' A A':=by
 obtain⟨D,fp,m,x,gv,F,h1,h2,h3,h4,h5,h6,h7,h8,h9,h10⟩:=h
 exact⟨D,fp,m,x,gv,F,h1,h2,h3,h4,h5,h6,h7,h8,fun keep=>by
  obtain⟨F',D',q1,q2,q3,q4⟩:=h9 keep;exact⟨F',D',q1,q2,Ah q3 hN,q4⟩,h10⟩
theorem acC{A:M}(h:used A≤100000):VK A:=by
 have hm:=dN A9 A;have hd:=dN A8 A;have hu:(A.map cost).sum≤100000:=by unfold used at h;omega
 have hm2:=Yf (Cm A9 A);have hd2:=Yf (Cm A8 A);have hk:=amK (Cm A8 A);refine⟨by omega,by omega,by omega,fun t ht=>?_,fun t ht=>?_,fun t ht=>?_⟩
 ·unfold Au CF at ht;rw[Df] at ht;obtain⟨p,hp,rfl⟩:=AV.1 ht;have:=pK hp;omega
 ·unfold Au CF at ht;rw[Df] at ht;obtain⟨p,hp,rfl⟩:=AV.1 ht;have:=pK hp;omega
 ·unfold Dr at ht;obtain⟨p,hp,ht⟩:=JE.1 ht;cases hr:C9 p.2 with
  |none=>rw[hr] at ht;simp at ht
  |some l=>
   rw[hr] at ht;exact Ah (an9 hr t ht) (by decide)
theorem anb{F:M}(hu:Up F){k d:T}(hg:get F k=some d):used (del k F)+(8+k.length+d.length)=used F:=by
 have hm:=get_some hg;have e:(put k d F)=F:=Sd (hu.put _ _) hu fun p=>by
  rw[Nh hu];constructor
  ·rintro(rfl|⟨h,_⟩)
   ·exact hm
   ·exact h
  ·intro hp;by_cases e:p.1=k
   ·refine .inl ?_;have h1:=get_mem hu (show(p.1,p.2)∈F from hp);rw[e,hg] at h1;injection h1 with h1
    rw[←e,h1]
   ·exact .inr ⟨hp,e⟩
 have:=((Sc (v:=d) hu k).map cost).sum_nat;rw[e,Bg,Cx] at this;unfold used;unfold cost at this ⊢;simp only at this;omega
theorem acD:∀ {l:List Af} {F:M},Up F→(l.map (·.name)).Nodup→(∀ c∈l,∃ d,get F c.name=some d∧c.data.length≤d.length)→Eb l≤used F
 |[],F,_,_,_=>Ar _
 |c :: l,F,hu,hn,h=>by
  obtain⟨n1,n2⟩:=Hu.1 hn;obtain⟨d,h1,h2⟩:=h c (by simp)
  have h3:=acD (F:=del c.name F) (hu.del _) n2 (fun x hx=>by
   obtain⟨e,h3,h4⟩:=h x (Dh _ hx);have hne:x.name≠c.name:=fun e=>n1 (show c.name∈l.map (·.name) from by rw[←e];exact ES hx)
   exact⟨e,by rw[Zu hu,Aa hne,h3],h4⟩)
  have h4:=anb hu h1
  show(8+c.name.length+c.data.length)+Eb l≤_
  omega
theorem acE{K:Kind}{A:M}{ks:List T}(hu:Up A)(hg:Fil.Good A)(ht:There K A ks):Eb (DC K A ks)≤used A:=by
 refine acD hu (by rw[Xn];exact SX _) fun c hc=>?_
 unfold DC at hc;obtain⟨name,hn,rfl⟩:=AV.1 hc;obtain⟨d,l,h1,_,_,h4,_⟩:=Xm hg ht hn;exact⟨d,by rw[aI];exact h1,h4⟩
theorem acF{K:Kind}{A:M}{ks:List T}:(DC K A ks).length≤ks.length:=by
 unfold DC;rw[BQ];have:=Ox (ks.map K.nm);rwa[BQ] at this
theorem acG{w V V':World}{bl Bv:Nat→Prop}(h1:A7 (FB w bl) w V)(h2:A7 (FB V Bv) V V')(hb:∀ k,Bv k→bl k∨w.heap.size≤k):A7 (FB w bl) w V':=
 h1.trans h2 (fun k hk=>by
  by_cases hl:w.heap.size≤k
  ·exact .inr hl
  ·refine .inl ?_;have hbk:bl k:=(hb k hk.1).elim id (fun e=>absurd e hl);by_cases hn:FB w bl k
   ·exact hn
   ·refine⟨hbk,fun t ht=>?_⟩;obtain⟨cs,fr,hh⟩:=ht;exact hk.2 t ⟨cs,fr,(h1.block k (by omega) hn).trans hh⟩)
theorem pM{w W V:World}{bl:Nat→Prop}(hb:Bw w W)(h:A7 (FB W bl) W V):A7 (FB w bl) w V:=
 acG (A7.of_below (F:=FB w bl) hb) h (fun k hk=>.inl hk)
def acH(fz:Bool)(w:World)(b y n N:Nat)(bl Bv:Nat→Prop)(A:M)(roots:List T)(c:Int)(V:World):Prop:=
 A7 (FB w bl) w V∧((c=0∧Eo fz V b y Bv n (N+2) (CY both A roots))∨(fz=true∧c=40∧(QY V b y Bv n (N+2) A (MF both A roots)∨QY V b y Bv n (N+2) (MF both A roots) (CY both A roots))))
theorem acI{K:Kind}{A:M}:made A (DC K A [])=A:=by
 unfold DC;rw[List.map_nil,az List.Pairwise.nil];rfl
section
variable {fz:Bool}{w:World}{b y n N:Nat}{bl:Nat→Prop}{A:M}
theorem anc{pd:Nat}{q:Option Addr}{cap:Nat}{ks:List T}(h:Eo fz w b y bl n N A)(hN:N < 1000000000)(hu:used A≤100000)(hd:Ex w pd y)(hk:BB w q ks)(hl:ks.length≤100000)(ht:There A8 A ks):
  Calls prog 37 #[.pointer (some ⟨pd,0,none⟩),.slice q ks.length cap] w fun e w'=>∃ c,e=.returned (.int .i64 c)∧∃ Bv,Ow fz w' b y Bv n (N+1) A (0,made A (DC A8 A ks)) c∧A7 (FB w bl) w w'∧∀ k,Bv k→bl k∨w.heap.size≤k:=by
 obtain⟨u1,u2,u3,-,-⟩:=h.up;obtain⟨d1,d2,-,-⟩:=aJ FH u1 u2 u3 ht;refine amA (Q:=fun c w'=>∃ Bv,Ow fz w' b y Bv n (N+1) A (0,made A (DC A8 A ks)) c∧A7 (FB w bl) w w'∧∀ k,Bv k→bl k∨w.heap.size≤k) hd (Xh h) u2 hk hl ht (fun W hW=>ay (h.below hW)) (fun e w' hw=>?_) (fun W q c hW hch=>?_)
 ·subst e;rw[acI];exact⟨bl,.inl ⟨rfl,(h.below hw).more (Nat.le_succ _)⟩,A7.of_below hw,fun k hk=>.inl hk⟩
 ·refine(yO (h.below hW) hN hch (Ah acF hl) (by have:=acE u1 u2 ht;omega)).mono ?_;rintro e w'⟨c,rfl,Bv,h1,h2,h3⟩;rw[d1,d2] at h1;exact⟨c,rfl,Bv,h1,pM hW h2,fun k hk=>(h3 k hk).imp id (fun e=>Ah hW.size e)⟩
theorem ane{pm:Nat}{q:Option Addr}{cap:Nat}{ks:List T}(h:Eo fz w b y bl n N A)(hN:N < 1000000000)(hu:used A≤100000)(hd:DR w pm y)(hk:BB w q ks)(hl:ks.length≤100000)(ht:There A9 A ks):
  Calls prog 39 #[.pointer (some ⟨pm,0,none⟩),.slice q ks.length cap] w fun e w'=>∃ c,e=.returned (.int .i64 c)∧∃ Bv,Ow fz w' b y Bv n (N+1) A (0,made A (DC A9 A ks)) c∧A7 (FB w bl) w w'∧∀ k,Bv k→bl k∨w.heap.size≤k:=by
 obtain⟨u1,u2,u3,-,-⟩:=h.up;obtain⟨d1,d2,-,-⟩:=aJ J3 u1 u2 u3 ht;refine amb (Q:=fun c w'=>∃ Bv,Ow fz w' b y Bv n (N+1) A (0,made A (DC A9 A ks)) c∧A7 (FB w bl) w w'∧∀ k,Bv k→bl k∨w.heap.size≤k) hd (Xh h) u2 hk hl ht (fun W hW=>ay (h.below hW)) (fun e w' hw=>?_) (fun W q c hW hch=>?_)
 ·subst e;rw[acI];exact⟨bl,.inl ⟨rfl,(h.below hw).more (Nat.le_succ _)⟩,A7.of_below hw,fun k hk=>.inl hk⟩
 ·refine(yO (h.below hW) hN hch (Ah acF hl) (by have:=acE u1 u2 ht;omega)).mono ?_;rintro e w'⟨c,rfl,Bv,h1,h2,h3⟩;rw[d1,d2] at h1;exact⟨c,rfl,Bv,h1,pM hW h2,fun k hk=>(h3 k hk).imp id (fun e=>Ah hW.size e)⟩
theorem anf{pm pd:Nat}{q:Option Addr}{cap:Nat}{roots:List T}(h:Eo fz w b y bl n N A)(hb:∀ k,bl k→k < w.heap.size)(hN:N+2 < 1000000000)(hu:used A≤100000)(hm:DR w pm y)(hd:Ex w pd y)(hr:BB w q roots)(hrl:roots.length≤1000000):
  Calls prog 9 #[.pointer (some ⟨pm,0,none⟩),.pointer (some ⟨pd,0,none⟩),.slice q roots.length cap] w fun e w'=>∃ c Bv,e=.returned (.tuple #[VL A roots c,.int .i64 c])∧acH fz w b y n N bl Bv A roots c w'∧∀ k,Bv k→bl k∨w.heap.size≤k:=by
 obtain⟨u1,u2,u3,u4,u5⟩:=h.up;have GA:BH.May n A:=⟨u1,u2,u3⟩;have hs1:=Xo (roots:=roots) Ep GA;have ang:used (MF both A roots)≤100000:=Ah (aJ FH u1 u2 u3 (aK (roots:=roots) Ep GA)).2.2.1 hu;have IG:=acC hu;have hrn:(F7 both A roots).length≤100000:=by
  have h1:=Km (fun r=>decide (r∉roots)) (FD both A);have h2:(FD both A).length=(Cm A8 A).length:=JW (K:=A8) u1;have h3:=Yf (Cm A8 A);have h4:=dN A8 A;have h5:(A.map cost).sum≤100000:=by unfold used at hu;omega
  show((FD both A).filter fun r=>decide (r∉roots)).length≤_
  omega
 have hkn:(DY both A roots).length≤100000:=by
  have h1:=Km (fun k=>decide (¬ FE both A roots k)) (Jn both A);have h2:(Jn both A).length=(Cm A9 A).length:=JW (K:=A9) u1;have h3:=Yf (Cm A9 A);have h4:=dN A9 A;have h5:(A.map cost).sum≤100000:=by unfold used at hu;omega
  show((Jn both A).filter fun k=>decide (¬ FE both A roots k)).length≤_
  omega
 refine(an2 (cap:=cap) (Q1:=fun D V=>A7 (FB w bl) w V∧(w.heap.size≤D∧D≤V.heap.size)∧∃ Bv,Eo fz V b y Bv n (N+1) (MF both A roots)∧(∀ k,Bv k→bl k∨D≤k)∧DR V pm y)
  (Q:=fun D c V=>w.heap.size≤D∧∃ Bv,acH fz w b y n N bl Bv A roots c V∧∀ k,Bv k→bl k∨D≤k) hm hd (aaR h) IG hr hrl ?_ ?_ ?_).mono ?_
 ·intro W q c hW hk;refine(anc (h.below hW) (by omega) hu (hd.below hW) hk hrn (aK Ep GA)).mono ?_;rintro e w'⟨c,rfl,Bv,h1,h2,h3⟩;have h4:A7 (FB w bl) w w':=pM hW h2;refine⟨c,rfl,h2.mono (fun k hk=>hb k hk.1),fun hc=>?_,fun hc=>?_⟩
  ·subst hc;obtain⟨_,g2⟩:=h1.zero;refine⟨h4,⟨hW.size,h2.size⟩,Bv,g2,h3,(hm.below hW).upd h2 (fun f=>f.not ⟨_,_,hm.below hW⟩ (by decide))⟩
  ·rcases h1 with⟨e1,_⟩|⟨e1,e2,_,e4⟩
   ·exact absurd e1 hc
   ·exact⟨hW.size,Bv,⟨h4,.inr ⟨e1,e2,.inl (ana e4 (by omega))⟩⟩,h3⟩
 ·rintro D W q c ⟨g1,⟨g2,g6⟩,Bv,g3,g4,g5⟩ hk;refine(ane g3 (by omega) ang g5 hk hkn (l9 Ep GA)).mono ?_;rintro e w'⟨c,rfl,bl2,h1,h2,h3⟩;refine⟨c,rfl,h2.mono (fun k hk=>(g4 k hk.1).imp (hb k) id),g2,bl2,⟨acG g1 h2 (fun k hk=>(g4 k hk).imp id (fun e=>Ah g2 e)),?_⟩,fun k hk=>?_⟩
  ·rcases h1 with⟨e1,e2⟩|⟨e1,e2,_,e4⟩
   ·exact .inl ⟨e1,e2⟩
   ·exact .inr ⟨e1,e2,.inr e4⟩
  ·rcases h3 k hk with e|e
   ·exact g4 k e
   ·exact .inr (Ah g6 e)
 ·rintro D c W W' k h1 h2 h3 h4 ⟨g1,Bv,⟨g2,g3⟩,g4⟩;have hs:∀ j,Ap W j 9→¬ j=k:=fun j hj e=>by
   obtain⟨cs,fr,hj⟩:=hj;obtain⟨cs2,fr2,hk⟩:=h3;rw[e,hk] at hj;injection hj with hj
   injection hj with _ hj
   exact absurd hj (by decide)
  have hP:∀ j,Bv j→¬ j=k:=fun j hj e=>by
   rcases g4 j hj with f|f
   ·have:=hb j f;omega
   ·omega
  refine⟨g1,Bv,⟨g2.trans h4 (fun i e=>.inr (by rw[e];exact h1)),?_⟩,g4⟩;rcases g3 with⟨e1,e2⟩|⟨e1,e2,e3⟩
  ·exact .inl ⟨e1,e2.upd h4 hs hP⟩
  ·exact .inr ⟨e1,e2,e3.imp (fun e=>e.upd h4 hs hP) (fun e=>e.upd h4 hs hP)⟩
 ·rintro e w' ⟨c,D,rfl,g1,Bv,g2,g3⟩;exact⟨c,Bv,rfl,g2,fun k hk=>(g3 k hk).imp id (fun e=>Ah g1 e)⟩
end
end GL
section
open Go.RowKit Go.WideShapes Go.ChangeShapes Go.Deep
open Fil
theorem ani{H:Type}{enc:TypeId×Value→H}{W:World}{base:Nat}{sp:Nat→Bool}{hd:Bool}{n:Nat}{cs:List Value}{y:DataW H×List MemPlace}(q:Addr)
  (hc:W.cells? base q 3=some cs)(h:DataW.trod enc prog W base sp hd n 65 cs=some y)(hz:∀ n∈DataW.weights prog 65 y.1,n≤reachBytes):
  ∃ x:Af,Mq W q x∧x.name.length≤reachBytes∧x.data.length≤reachBytes:=by
 obtain⟨_,hl,hat⟩:=World.cells?_some hc;obtain⟨xs,n',_,rfl,_,hxl,hf⟩:=DataW.trod_struct underlying65 h;have o2:prog.cellsOf 9=1:=by kernel_rfl
 have o3:prog.cellsOf 4=1:=by kernel_rfl
 have acJ:xs.length=3:=hxl;have g0:DataW.trod enc prog W base sp hd n' 9 ((cs.drop 0).take (prog.cellsOf 9))=xs[0]? :=hf 0 _ rfl;have g1:DataW.trod enc prog W base sp hd n' 9 ((cs.drop 1).take (prog.cellsOf 9))=xs[1]? :=hf 1 _ rfl;have g2:DataW.trod enc prog W base sp hd n' 4 ((cs.drop 2).take (prog.cellsOf 4))=xs[2]? :=hf 2 _ rfl;rw[o2,Po hl _ (by omega),BP (by omega)] at g0 g1;rw[o3,Po hl _ (by omega),BP (by omega)] at g2;obtain⟨v0,e0,y0,_⟩:=DataW.trod_string underlying9 g0;obtain⟨v1,e1,y1,_⟩:=DataW.trod_string underlying9 g1;obtain⟨v2,e2,_⟩:=DataW.trod_bool underlying4 g2;have cell:∀ j (hj:j < 3) v,[cs[j]'(by omega)]=[v]→W.cell? (q.add j)=some v:=fun j hj v e=>by
  rw[hat j hj,BP (by omega)];simpa using e
 refine⟨⟨v0.data.toList,v1.data.toList,v2⟩,⟨cell 0 (by omega) _ e0,cell 1 (by omega) _ e1,cell 2 (by omega) _ e2⟩,?_,?_⟩
 ·refine hz _ ?_;simp only[DataW.weights,underlying65];refine DataW.weights_mem_each (j:=0) (t:=9) (d:=.lit (.string v0.data.toList)) rfl ?_ _ (by simp[DataW.weights]);rw[Gt,BP (by omega),y0];rfl
 ·refine hz _ ?_;simp only[DataW.weights,underlying65];refine DataW.weights_mem_each (j:=1) (t:=9) (d:=.lit (.string v1.data.toList)) rfl ?_ _ (by simp[DataW.weights]);rw[Gt,BP (by omega),y1];rfl
end
section
open Go.RowKit Go.Maps
open Fil
end
namespace Kp
open Go.Lib Go.RowKit Fil Man Wal Prs Hex
abbrev Us:=List (T×List T)
def L6(u:T×List T):T×T:=(u.1,(BK (Az u.2)).1)
def AJ(l:Us):M:=l.map L6
def J6(l:Us):Prop:=∀ u∈l,(BK (Az u.2)).2=0
instance (l:Us):Decidable (J6 l):=inferInstanceAs (Decidable (∀ u∈l,_))
def F9(n:Nat)(A:M)(l:Us):Int×M:=if J6 l then EG A8 n A (AJ l) else(5,A)
theorem pO{l:List T}(h:(BK l).2=0):C9 (BK l).1=some l:=by
 unfold BK at h ⊢;cases he:Er l with
 |none=>rw[he] at h;cases h
 |some s=>exact uZ he
theorem anj{l:List T}:(BK l).2=0↔(Er l).isSome=true:=by
 unfold BK;cases Er l<;>simp
theorem ank{u:T×List T}(h:(BK (Az u.2)).2=0):A8.ok (L6 u)=true:=by
 show rowOk _=true
 unfold rowOk L6;rw[pO h]
 show decide (Az (Az u.2)=Az u.2)=true
 rw[az (Ew _)];exact Gs rfl
theorem pQ{l:Us}(h:J6 l):∀ p∈AJ l,A8.ok p=true:=fun p hp=>by
 obtain⟨u,hu,rfl⟩:=AV.1 hp;exact ank (h u hu)
theorem dO(l:Us)(k:Nat):AJ (l.take k)=(AJ l).take k:=by unfold AJ;rw[List.map_take]
theorem Ke(l:Us):(AJ l).length=l.length:=by unfold AJ;rw[BQ]
theorem acK{l:Us}{u:T×List T}:J6 (l++[u])↔J6 l∧(BK (Az u.2)).2=0:=by
 unfold J6;constructor
 ·intro h;exact⟨fun x hx=>h x (List.mem_append_left _ hx),h u (by simp)⟩
 ·rintro⟨h1,h2⟩ x hx;rcases Ee.1 hx with e|e
  ·exact h1 x e
  ·obtain rfl:x=u:=(by simpa using e);exact h2
theorem acL(l:Us)(u:T×List T):AJ (l++[u])=AJ l++[L6 u]:=by unfold AJ;rw[C8];rfl
section
variable {K:Kind}{A:M}
theorem dP(hu:Up A)(hno:∀ k,get A (K.nm k)=none){l:M}(hok:∀ p∈l,K.ok p=true)(hf:Fits K l)(k:T):fileOf K (made A (E5 K l)) (K.nm k)=if K.nm k∈l.map (fun p=>K.nm p.1) then some (AR K l (K.nm k)) else none:=by
 unfold fileOf;rw[bZ hu];by_cases h:K.nm k∈l.map fun p=>K.nm p.1
 ·rw[Ac h,Ac h];obtain⟨p,hp,e⟩:=AV.1 h;have e:K.nm p.1=K.nm k:=e;rw[←e];have hc:=hf.all p hp;obtain⟨d,hd⟩:=JD.1 hc;rw[hd]
  show K.Cn _ d=_
  exact zW hd (abr hp) (NU _ _) fun q hq=>⟨(bX _ _ q hq).1,hok q (bX _ _ q hq).2⟩
 ·rw[Aa h,Aa h,hno];rfl
theorem acM(hu:Up A)(hno:∀ k,get A (K.nm k)=none){l:M}(hok:∀ p∈l,K.ok p=true)(hf:Fits K l)(k:T):(fileOf K (made A (E5 K l)) (K.nm k)).getD []=AR K l (K.nm k):=by
 rw[dP hu hno hok hf];split
 ·rfl
 ·rename_i h
  rw[XY h];rfl
theorem pR:Fits K []:=fun j hj=>by simp at hj
theorem acN{K':Kind}(hK:K.Bf)(hK':K'.Bf)(hd:∀ x,K.ours x=true→K'.ours x=true→False)(hu:Up A)(hno:∀ k,get A (K.nm k)=none){n:Nat}(l:M):∀ k,get (EG K' n A l).2 (K.nm k)=none:=by
 intro k;unfold EG;split
 ·show get (DN n A (DF K' l)) _=none
  unfold DN;split
  ·rw[nK hu,Aa,hno];intro h;obtain⟨p,_,e⟩:=AV.1 h;exact hd _ (hK.SV k) (by rw[←e];exact hK'.SV _)
  ·exact hno k
 ·exact hno k
theorem acO(hu:Up A)(l:M):used (made A (E5 K l))=used (made A (DF K l)):=by rw[cz hu]
end
end Kp
namespace Prs
open Fil Man
def cutR(o:M)(k:T):Nat→Nat
 |0=>0
 |n+1=>if k < (o.getD n ([],[])).1 then cutR o k n else n+1
def MV(o:M)(x:T×T):M:=o.take (cutR o x.1 o.length)++[x]++o.drop (cutR o x.1 o.length)
def Ic(l:M):M:=l.foldl MV []
theorem acP(o:M)(k:T):∀ n,cutR o k n≤n
 |0=>Ab _
 |n+1=>by
  unfold cutR;split
  ·exact Nat.le_succ_of_le (acP o k n)
  ·exact Ab _
theorem acQ(o:M)(k:T):∀ n,∀ i,cutR o k n≤i→i < n→k < (o.getD i ([],[])).1
 |0,i,_,h=>absurd h (Nat.not_lt_zero _)
 |n+1,i,h1,h2=>by
  unfold cutR at h1;split at h1
  ·rename_i hk
   by_cases e:i=n
   ·rw[e];exact hk
   ·exact acQ o k n i h1 (by omega)
  ·omega
theorem pU(o:M)(k:T):∀ n,∀ i,cutR o k n=i+1→(o.getD i ([],[])).1≤k
 |0,i,h=>by unfold cutR at h;omega
 |n+1,i,h=>by
  unfold cutR at h;split at h
  ·exact pU o k n i h
  ·rename_i hk
   obtain rfl:n=i:=(by omega);exact V6.1 hk
theorem anl(o:M)(x:T×T):(MV o x).Perm (x :: o):=by
 unfold MV;have h:=List.perm_middle (a:=x) (l₁:=o.take (cutR o x.1 o.length)) (l₂:=o.drop (cutR o x.1 o.length));rw[Ja] at h;rw[Cw];exact h
theorem acR{o:M}(h:BN o){k:T}{n:Nat}(hn:n≤o.length)(hl:∀ i,n=i+1→(o.getD i ([],[])).1≤k):∀ p∈o.take n,p.1≤k:=by
 intro p hp;obtain⟨j,hj,rfl⟩:=List.mem_iff_getElem.1 hp;rw[Aw] at hj;rw[List.getElem_take];obtain⟨i,rfl⟩:∃ i,n=i+1:=⟨n -1,by omega⟩;have h1:=hl i rfl;rw[FK,BP (show i < o.length by omega),Option.getD_some] at h1;by_cases e:j=i
 ·subst e;exact h1
 ·exact List.le_trans (List.pairwise_iff_getElem.1 h j i (by omega) (by omega) (by omega)) h1
theorem anm{o:M}(h:BN o)(x:T×T):BN (MV o x):=by
 unfold MV;have hc:=acP o x.1 o.length;refine List.pairwise_append.2 ⟨List.pairwise_append.2 ⟨h.sublist (List.take_sublist _ _),P9 _ _,fun a ha b hb=>?_⟩,h.sublist (List.drop_sublist _ _),fun a ha b hb=>?_⟩
 ·obtain rfl:b=x:=by simpa using hb
  exact acR h hc (fun i hi=>pU o b.1 _ i hi) a ha
 ·obtain⟨j,hj,rfl⟩:=List.mem_iff_getElem.1 hb;rw[BA] at hj;rw[List.getElem_drop];have hk:=acQ o x.1 o.length (cutR o x.1 o.length+j) (by omega) (by omega);rw[FK,BP (show cutR o x.1 o.length+j < o.length by omega),Option.getD_some] at hk;rcases Ee.1 ha with e|e
  ·exact List.le_trans (acR h hc (fun i hi=>pU o x.1 _ i hi) a e) (Xi hk)
  ·obtain rfl:a=x:=(by simpa using e);exact Xi hk
theorem acS(l:M):∀ o,BN o→BN (l.foldl MV o)∧(l.foldl MV o).Perm (o++l):=by
 induction l with
 |nil=>intro o ho;exact⟨ho,by simp⟩
 |cons x l ih=>
  intro o ho;obtain⟨h1,h2⟩:=ih (MV o x) (anm ho x);refine⟨h1,h2.trans ?_⟩;refine((anl o x).append_right l).trans ?_;exact List.perm_middle.symm
theorem acT(l:M):(Ic l).Perm l:=(acS l [] List.Pairwise.nil).2
theorem ann(l:M):BN (Ic l):=(acS l [] List.Pairwise.nil).1
theorem ano(l:M):(Ic l).length=l.length:=(acT l).length_eq
theorem anp(l:M)(x:T×T):Ic (l++[x])=MV (Ic l) x:=by unfold Ic;rw[List.foldl_append];rfl
theorem anq{l:M}(h:Up l)(k v:T):Ic (l.filter (fun p=>!(p.1 == k))++[(k,v)])=put k v l:=by
 have hd:del k l=l.filter (fun q=>!(q.1 == k)):=rfl;rw[←hd];have hp:=acT (del k l++[(k,v)]);have hdu:=h.del k;refine Sd (aF (ann _) ?_) (h.put k v) fun p=>?_
 ·rw[(hp.map (·.1)).nodup_iff,C8,List.nodup_append];refine⟨hdu.nodup,by simp,fun a ha b hb=>?_⟩;simp only[Bg,List.map_nil,DT] at hb;subst hb;obtain⟨q,hq,rfl⟩:=AV.1 ha;exact(QF.1 hq).2
 ·rw[hp.mem_iff,Nh h,Ee,QF,DT];exact⟨fun e=>e.elim .inr .inl,fun e=>e.elim .inr .inl⟩
end Prs
end Go.Proofs.YtmbbhdebddbhoaaGreat
