/- MapK ChgP DropP PutP PutQ SetP RPrs RefSha RefBlk RefSum ManD -/
import Derived.Test.YtkmninbcgipliaaGreatDoorQ12
set_option maxHeartbeats 4000000
set_option maxRecDepth 100000
set_option linter.all false
namespace Go.Proofs.YtkmninbcgipliaaGreatDoor
open Tryz hiding t1 t2
section
open Go.RowKit Go.Maps Go.Sort Go.Shelf
open Af Ap
def akI:Go.Shelf.Ren:=⟨fun|7=>180|10=>236|n=>n,fun|23=>175|26=>9|3=>176|28=>256|0=>0|27=>255|33=>231|4=>4|n=>n,fun|n=>n⟩
theorem akH:Go.Proofs.SlLaysZ.n7 prog akI:={
 mixed:=by kernel_rfl
 f7:=⟨Tryz.f180.name,by decide,func180.trans (congrArg some (by kernel_rfl))⟩
 f10:=⟨Tryz.f236.name,by decide,func236.trans (congrArg some (by kernel_rfl))⟩
 t0:=underlying0
 a0:=Tryz.isAgg0
 z0:=Tryz.sizeOf0
 v0:=Tryz.zeroValue0
 t4:=underlying4
 a4:=Tryz.isAgg4
 z4:=Tryz.sizeOf4
 v4:=Tryz.zeroValue4
 t23:=underlying175
 a23:=Tryz.isAgg175
 z23:=Tryz.sizeOf175
 v23:=Tryz.zeroValue175
 t26:=underlying9
 a26:=Tryz.isAgg9
 z26:=Tryz.sizeOf9
 v26:=Tryz.zeroValue9
 t27:=underlying255
 a27:=Tryz.isAgg255
 z27:=Tryz.sizeOf255
 v27:=Tryz.zeroValue255
 t28:=underlying256
 a28:=Tryz.isAgg256
 z28:=Tryz.sizeOf256
 v28:=Tryz.zeroValue256
 t33:=underlying231
 a33:=Tryz.isAgg231
 z33:=Tryz.sizeOf231
 v33:=Tryz.zeroValue231 }
def afJ:Go.Shelf.Ren:=⟨fun|7=>193|10=>248|n=>n,fun|23=>190|26=>9|3=>193|28=>256|0=>0|27=>255|33=>231|4=>4|n=>n,fun|n=>n⟩
theorem afI:Go.Proofs.SlLaysZ.n7 prog afJ:={
 mixed:=by kernel_rfl
 f7:=⟨Tryz.f193.name,by decide,func193.trans (congrArg some (by kernel_rfl))⟩
 f10:=⟨Tryz.f248.name,by decide,func248.trans (congrArg some (by kernel_rfl))⟩
 t0:=underlying0
 a0:=Tryz.isAgg0
 z0:=Tryz.sizeOf0
 v0:=Tryz.zeroValue0
 t4:=underlying4
 a4:=Tryz.isAgg4
 z4:=Tryz.sizeOf4
 v4:=Tryz.zeroValue4
 t23:=underlying190
 a23:=Tryz.isAgg190
 z23:=Tryz.sizeOf190
 v23:=Tryz.zeroValue190
 t26:=underlying9
 a26:=Tryz.isAgg9
 z26:=Tryz.sizeOf9
 v26:=Tryz.zeroValue9
 t27:=underlying255
 a27:=Tryz.isAgg255
 z27:=Tryz.sizeOf255
 v27:=Tryz.zeroValue255
 t28:=underlying256
 a28:=Tryz.isAgg256
 z28:=Tryz.sizeOf256
 v28:=Tryz.zeroValue256
 t33:=underlying231
 a33:=Tryz.isAgg231
 z33:=Tryz.sizeOf231
 v33:=Tryz.zeroValue231 }
theorem awQ(mb:Option Nat)(W:World):Calls prog 180 #[.map mb] W fun e w'=>e=.returned (.func (.func 236) #[] #[.pointer (some ⟨W.heap.size,0,none⟩)])∧w'=W.alloc (.cells #[.map mb] 175):=
 Dr.1 (AnyZ.keys_in akH Fence.wide 5 trivial rfl mb W)
theorem awW{w:World}{m:Nat}{kv:List (T×Value)}(Uw:FU prog 9 w m kv)(hlen:kv.length≤1000000):
  Calls prog 168 #[.func (.func 236) #[] #[.pointer (some ⟨w.heap.size,0,none⟩)]] (w.alloc (.cells #[.map (some m)] 175)) fun e w'=>
   ∃ v,e=.returned v∧w'.ownsRow (w.heap.size+1) 9 1 v kv.length (((kv.map (·.1)).mergeSort (fun x y=>decide (x≤y))).map encStr)∧Bw w w':=by
 obtain⟨D,hown,BL,dx⟩:=Uw.keyed;have Ct:=hown.lt;have Lv:SeqGives Fence.wide 2 prog 236 #[.pointer (some ⟨w.heap.size,0,none⟩)] encStr (fun ss=>ss.Perm (strKeys D)) (Maps.size D) (w.alloc (.cells #[.map (some m)] 175)):=
  AnyZ.keys_gives (ρ:=akI) { akH with } Fence.wide _ trivial rfl (by omega) w.heap.size m kv.length D _ (by simp) (by simp) (by
   obtain⟨es,clock,hb,Ft,hs,hD⟩:=hown;exact⟨es,clock,(Below.heap_alloc _ _ m Ct).trans hb,Ft,hs,hD⟩)
 have cS:=AnyZ.sorted_in zz Fence.wide 5 trivial trivial trivial trivial rfl (by omega) (zA _) (enters_of func70 (by kernel_rfl) rfl) 236 #[.pointer (some ⟨w.heap.size,0,none⟩)] trivial (enters_of func236 (by kernel_rfl) rfl) _ _ (by unfold maxLen;omega) (by omega) _ Lv;refine(Dr.1 cS).mono ?_;rintro e w'⟨v,ss,rfl,hS,Ag,_,hb⟩;have Mi:ss.Perm (kv.map (·.1)):=hS.trans dx.symm;have e1:ss.length=kv.length:=by have:=Mi.length_eq;simpa using this
 have e2:ss.mergeSort leB=(kv.map (·.1)).mergeSort leB:=mergeSort_of_perm Mi;have e3:ss.mergeSort (fun x y=>decide (x≤y))=(kv.map (·.1)).mergeSort (fun x y=>decide (x≤y)):=e2;rw[e1,e3] at Ag;exact⟨v,rfl,by rw[Ar] at Ag;exact Ag,((Ah _ w).alloc (Ae _) _).trans (hb.mono (by rw[Ar];omega))⟩
theorem aqR(mb:Option Nat)(W:World):Calls prog 193 #[.map mb] W fun e w'=>e=.returned (.func (.func 248) #[] #[.pointer (some ⟨W.heap.size,0,none⟩)])∧w'=W.alloc (.cells #[.map mb] 190):=
 Dr.1 (AnyZ.keys_in afI Fence.wide 5 trivial rfl mb W)
theorem aqT{w:World}{m:Nat}{kv:List (T×Value)}(Uw:FU prog 9 w m kv)(hlen:kv.length≤1000000):
  Calls prog 168 #[.func (.func 248) #[] #[.pointer (some ⟨w.heap.size,0,none⟩)]] (w.alloc (.cells #[.map (some m)] 190)) fun e w'=>
   ∃ v,e=.returned v∧w'.ownsRow (w.heap.size+1) 9 1 v kv.length (((kv.map (·.1)).mergeSort (fun x y=>decide (x≤y))).map encStr)∧Bw w w':=by
 obtain⟨D,hown,BL,dx⟩:=Uw.keyed;have Ct:=hown.lt;have Lv:SeqGives Fence.wide 2 prog 248 #[.pointer (some ⟨w.heap.size,0,none⟩)] encStr (fun ss=>ss.Perm (strKeys D)) (Maps.size D) (w.alloc (.cells #[.map (some m)] 190)):=
  AnyZ.keys_gives (ρ:=afJ) { afI with } Fence.wide _ trivial rfl (by omega) w.heap.size m kv.length D _ (by simp) (by simp) (by
   obtain⟨es,clock,hb,Ft,hs,hD⟩:=hown;exact⟨es,clock,(Below.heap_alloc _ _ m Ct).trans hb,Ft,hs,hD⟩)
 have cS:=AnyZ.sorted_in zz Fence.wide 5 trivial trivial trivial trivial rfl (by omega) (zA _) (enters_of func70 (by kernel_rfl) rfl) 248 #[.pointer (some ⟨w.heap.size,0,none⟩)] trivial (enters_of func248 (by kernel_rfl) rfl) _ _ (by unfold maxLen;omega) (by omega) _ Lv;refine(Dr.1 cS).mono ?_;rintro e w'⟨v,ss,rfl,hS,Ag,_,hb⟩;have Mi:ss.Perm (kv.map (·.1)):=hS.trans dx.symm;have e1:ss.length=kv.length:=by have:=Mi.length_eq;simpa using this
 have e2:ss.mergeSort leB=(kv.map (·.1)).mergeSort leB:=mergeSort_of_perm Mi;have e3:ss.mergeSort (fun x y=>decide (x≤y))=(kv.map (·.1)).mergeSort (fun x y=>decide (x≤y)):=e2;rw[e1,e3] at Ag;exact⟨v,rfl,by rw[Ar] at Ag;exact Ag,((Ah _ w).alloc (Ae _) _).trans (hb.mono (by rw[Ar];omega))⟩
end
namespace Kp
open Go.Lib Go.RowKit Af Ap Aq Bu
def rowOf(L:List (T×M))(name:T):M:=((L.find? fun x=>x.1 == name).map (·.2)).getD []
theorem lq{L:List (T×M)}(hn:(L.map (·.1)).Nodup){x:T×M}(hx:x∈L):rowOf L x.1=x.2:=by
 unfold rowOf
 induction L with
 |nil=>simp at hx
 |cons y L ih=>
  obtain⟨n1,n2⟩:=Ju.1 hn;rcases BZ.1 hx with rfl|hx
  ·simp
  ·have:y.1≠x.1:=fun e=>n1 (show y.1∈L.map (·.1) from by rw[e];exact Hl hx)
   rw[List.find?_cons_of_neg (by simpa using this)];exact ih n2 hx
def M8(name:T)(l:M):Am:=if l=[] then⟨name,[],true⟩ else⟨name,(BS l).getD [],false⟩
def MN(l:M):Bool:=decide (l=[]) || (BS l).isSome
def Da(L:List (T×M)):List T:=(L.map (·.1)).mergeSort fun x y=>decide (x≤y)
def KL(L:List (T×M)):List Am:=(Da L).map fun t=>M8 t (rowOf L t)
def Ps(L:List (T×M)):Bool:=(Da L).all fun t=>MN (rowOf L t)
theorem kV{L:List (T×M)}{t:T}:t∈Da L↔t∈L.map (·.1):=by
 unfold Da;exact(List.mergeSort_perm _ _).mem_iff
theorem tq(L:List (T×M)):(Da L).length=L.length:=by
 unfold Da;rw[(List.mergeSort_perm _ _).length_eq,Ca]
theorem tu{L:List (T×M)}(hn:(L.map (·.1)).Nodup):Da L=Bc (L.map (·.1)):=by
 have hp:(Da L).Perm (L.map (·.1)):=List.mergeSort_perm _ _;have hs:CR ((Da L).map fun t=>(t,[])):=by
  unfold CR;rw[List.pairwise_map]
  have:=List.pairwise_mergeSort (le:=fun x y:T=>decide (x≤y)) (fun a b c h1 h2=>by
   have h1:a≤b:=Q4 h1;have h2:b≤c:=Q4 h2;exact OT (List.le_trans h1 h2)) (fun a b=>by
   by_cases h:a≤b
   ·simp[h]
   ·have:b≤a:=(List.le_total a b).resolve_left h;simp[this]) (L.map (·.1))
  exact this.imp fun h=>Q4 h
 refine QU ?_ (JQ _) fun t=>by rw[hp.mem_iff,Eg]
 have dG:(Da L).Nodup:=hp.nodup_iff.2 hn;unfold CR at hs;rw[List.pairwise_map] at hs;refine(hs.and (List.nodup_iff_pairwise_ne.1 dG)).imp fun {a b} h=>?_
 rcases ZI h.1 with e|e
 ·exact e
 ·exact absurd e h.2
structure O6(K:Kind)(A:M)(kt:List T)(L:List (T×M)):Prop where
 nodup:(L.map (·.1)).Nodup
 names:∀ t,t∈L.map (·.1)↔t∈kt.map K.nm
 rows:∀ x∈L,x.2=J6 K A kt x.1
section
variable {K:Kind}{A:M}
theorem O6.nil:O6 K A [] []:=⟨by simp,fun t=>by simp,fun x hx=>by simp at hx⟩
theorem awq{kt:List T}{name:T}:∀ p∈J6 K A kt name,K.nm p.1=name:=by
 intro p hp;unfold J6 at hp;have h1:=(FQ.1 hp).1;cases hf:fileOf K A name with
 |none=>rw[hf] at h1;simp at h1
 |some l=>
  rw[hf] at h1;unfold fileOf at hf;cases hg:get A name with
  |none=>rw[hg] at hf;cases hf
  |some d=>
   rw[hg] at hf;exact((Nf hf).2.2.1 _ h1).1
theorem abN(kt:List T)(k name:T):J6 K A (kt++[k]) name=(J6 K A kt name).filter fun p=>!(p.1 == k):=by
 unfold J6;rw[List.filter_filter];refine List.filter_congr fun p _=>?_
 by_cases h1:p.1=k<;>by_cases h2:p.1∈kt<;>simp[h1,h2]
theorem akm(kt:List T){k name:T}(h:K.nm k≠name):J6 K A (kt++[k]) name=J6 K A kt name:=by
 rw[abN];refine List.filter_eq_self.2 fun p hp=>?_
 have:=awq p hp;have:p.1≠k:=fun e=>h (by rw[←e];exact this)
 simpa using this
def setRow(L:List (T×M))(name:T)(l:M):List (T×M):=L.map fun x=>if x.1=name then(x.1,l) else x
theorem uC(L:List (T×M))(name:T)(l:M):(setRow L name l).map (·.1)=L.map (·.1):=by
 unfold setRow;rw[Ko];exact Q3 fun x _=>by
  show(if x.1=name then(x.1,l) else x).1=x.1
  split<;>rfl
theorem O6.new{kt:List T}{L:List (T×M)}(h:O6 K A kt L){k:T}(hk:K.nm k∉L.map (·.1)):O6 K A (kt++[k]) ((K.nm k,((fileOf K A (K.nm k)).getD []).filter fun p=>!(p.1 == k)) :: L):=by
 refine⟨Ju.2 ⟨hk,h.nodup⟩,fun t=>?_,fun x hx=>?_⟩
 ·rw[Ce,BZ,h.names,D6,EG];constructor
  ·rintro(e|e)
   ·exact .inr (by simp[e])
   ·exact .inl e
  ·rintro(e|e)
   ·exact .inr e
   ·exact .inl (by simpa using e)
 ·rcases BZ.1 hx with rfl|hx
  ·show _=J6 K A (kt++[k]) (K.nm k)
   have e:((fileOf K A (K.nm k)).getD []).filter (fun p=>decide (p.1∉kt))=(fileOf K A (K.nm k)).getD []:=List.filter_eq_self.2 fun p hp=>by
    have h1:K.nm p.1=K.nm k:=by
     cases hf:fileOf K A (K.nm k) with
     |none=>rw[hf] at hp;simp at hp
     |some l=>
      rw[hf] at hp;unfold fileOf at hf;cases hg:get A (K.nm k) with
      |none=>rw[hg] at hf;cases hf
      |some d=>
       rw[hg] at hf;exact((Nf hf).2.2.1 _ hp).1
    have:p.1∉kt:=fun e=>hk ((h.names _).2 (BA.2 ⟨p.1,e,h1⟩))
    simpa using this
   rw[abN];unfold J6;rw[e]
  ·rw[h.rows x hx,akm _ (fun e=>hk (by rw[e];exact Hl hx))]
theorem O6.oz{ks:List T}{L:List (T×M)}(hg:Af.Good A)(h:O6 K A ks L)(ht:There K A ks):KL L=Ff K A ks∧Ps L=true:=by
 have hn:Da L=Bc (ks.map K.nm):=by
  rw[tu h.nodup];refine QU (JQ _) (JQ _) fun t=>?_
  rw[Eg,Eg];exact h.names t
 have hr:∀ t∈Da L,rowOf L t=J6 K A ks t:=fun t ht=>by
  obtain⟨x,hx,rfl⟩:=BA.1 (kV.1 ht);rw[lq h.nodup hx,h.rows x hx]
 constructor
 ·unfold KL Ff;rw[←hn];refine Q3 fun t ht=>?_
  rw[hr t ht];rfl
 ·unfold Ps;rw[Mr];intro t hm;rw[hr t hm];rw[hn] at hm;obtain⟨d,l,h1,h2,h3,h4,h5⟩:=bC hg ht hm;have e:J6 K A ks t=l.filter (fun p=>decide (p.1∉ks)):=by unfold J6;rw[h3];rfl
  unfold MN;rw[e];rcases h5 with⟨h5,_⟩|⟨s,h5,h6,_⟩
  ·rw[h5];rfl
  ·rw[h6];simp
end
end Kp
namespace Kp
open Go.Lib Af Ap Aq Bu
theorem UN{α:Type}{C:List α→Prop}(h0:C [])(h1:∀ l x,C l→C (l++[x]))(l:List α):C l:=by
 have:∀ r:List α,C r.reverse:=fun r=>by
  induction r with
  |nil=>exact h0
  |cons x r ih=>rw[List.reverse_cons];exact h1 _ _ ih
 simpa using this l.reverse
section
variable {K:Kind}{A:M}
def BG(K:Kind)(l:M)(name:T):M:=(l.filter fun p=>K.nm p.1 == name).foldl (fun acc p=>put p.1 p.2 acc) []
theorem NH(l:M)(p:T×T)(name:T):BG K (l++[p]) name=if K.nm p.1=name then put p.1 p.2 (BG K l name) else BG K l name:=by
 unfold BG;rw[LJ,List.foldl_append];by_cases h:K.nm p.1=name
 ·rw[Ac h,UX (by simpa using h)];rfl
 ·rw[Aa h,QZ (by simpa using h)];rfl
theorem SL(l:M)(name:T):Up (BG K l name):=by
 unfold BG;generalize l.filter _=k
 suffices h:∀ (k a:M),Up a→Up (k.foldl (fun acc p=>put p.1 p.2 acc) a) from h k [] Up.nil
 intro k
 induction k with
 |nil=>exact fun a h=>h
 |cons p k ih=>exact fun a h=>ih _ (h.put _ _)
theorem pV(l:M)(name:T):∀ q∈BG K l name,K.nm q.1=name∧q∈l:=by
 unfold BG;have hl:∀ q∈l.filter (fun p=>K.nm p.1 == name),K.nm q.1=name∧q∈l:=fun q hq=>by
  obtain⟨h1,h2⟩:=FQ.1 hq;exact⟨by simpa using h2,h1⟩
 generalize l.filter _=k at hl
 suffices h:∀ (k a:M),Up a→(∀ q∈k,K.nm q.1=name∧q∈l)→(∀ q∈a,K.nm q.1=name∧q∈l)→∀ q∈k.foldl (fun acc p=>put p.1 p.2 acc) a,K.nm q.1=name∧q∈l from h k [] Up.nil hl (fun q hq=>by simp at hq)
 intro k
 induction k with
 |nil=>exact fun a _ _ h=>h
 |cons p k ih=>
  refine fun a hu h1 h2=>ih _ (hu.put _ _) (fun q hq=>h1 q (GI _ hq)) fun q hq=>?_
  rcases(TC hu).1 hq with rfl|⟨hq,_⟩
  ·exact h1 p (by simp)
  ·exact h2 q hq
theorem j3{l:M}{name:T}(h:name∉l.map fun p=>K.nm p.1):BG K l name=[]:=by
 cases hg:BG K l name with
 |nil=>rfl
 |cons q r=>
  obtain⟨h1,h2⟩:=pV (K:=K) l name q (by rw[hg];simp);exact absurd (BA.2 ⟨q,h2,h1⟩) h
theorem ah3{l:M}{p:T×T}(h:p∈l):BG K l (K.nm p.1)≠[]:=by
 suffices hs:∀ l:M,(∃ q∈l,K.nm q.1=K.nm p.1)→BG K l (K.nm p.1)≠[] from hs l ⟨p,h,rfl⟩
 intro l
 induction l using UN with
 |h0=>rintro⟨q,hq,_⟩;simp at hq
 |h1 l x ih=>
  rintro⟨q,hq,e⟩;rw[NH];split
  ·rename_i hx
   exact List.ne_nil_of_mem ((TC (SL l _)).2 (.inl rfl))
  ·rename_i hx
   refine ih ⟨q,?_,e⟩;rcases EG.1 hq with hq|hq
   ·exact hq
   ·rw[FC] at hq;rw[hq] at e;exact absurd e hx
def Fits(K:Kind)(l:M):Prop:=∀ j,(h:j < l.length)→(BS (BG K (l.take (j+1)) (K.nm l[j].1))).isSome=true
instance (K:Kind) (l:M):Decidable (Fits K l):=inferInstanceAs (Decidable (∀ j,(h:j < l.length)→_))
theorem Fits.kY{l:M}{p:T×T}:Fits K (l++[p])↔Fits K l∧(BS (BG K (l++[p]) (K.nm p.1))).isSome=true:=by
 unfold Fits;constructor
 ·intro h;refine⟨fun j hj=>?_,?_⟩
  ·have:=h j (by simp;omega);rw[List.getElem_append_left hj,List.take_append_of_le_length (by omega)] at this;exact this
  ·have:=h l.length (by simp);simp only[List.getElem_append_right (Ae _),Nat.sub_self,List.getElem_cons_zero] at this;rw[I7 (by simp)] at this;exact this
 ·rintro⟨h1,h2⟩ j hj;by_cases e:j < l.length
  ·rw[List.getElem_append_left e,List.take_append_of_le_length (by omega)];exact h1 j e
  ·obtain rfl:j=l.length:=(by simp at hj;omega);simp only[List.getElem_append_right (Ae _),Nat.sub_self,List.getElem_cons_zero];rw[I7 (by simp)];exact h2
theorem Fits.all{l:M}(h:Fits K l):∀ p∈l,(BS (BG K l (K.nm p.1))).isSome=true:=by
 suffices hs:∀ l:M,Fits K l→∀ p∈l,(BS (BG K l (K.nm p.1))).isSome=true from hs l h
 intro l
 induction l using UN with
 |h0=>exact fun _ p hp=>by simp at hp
 |h1 l x ih=>
  intro hf p hp;obtain⟨h1,h2⟩:=Fits.kY.1 hf;by_cases e:K.nm x.1=K.nm p.1
  ·rw[←e];exact h2
  ·rw[NH,Aa e];refine ih h1 p ?_;rcases EG.1 hp with hp|hp
   ·exact hp
   ·rw[FC] at hp;rw[hp] at e;exact absurd rfl e
def Mj(K:Kind)(l:M)(name:T):Am:=⟨name,(BS (BG K l name)).getD [],false⟩
def EZ(K:Kind)(l:M):List Am:=(Bc (l.map fun p=>K.nm p.1)).map (Mj K l)
def FJ(K:Kind)(l:M):List Am:=(List.range l.length).map fun j=>Mj K (l.take (j+1)) (K.nm (l.getD j ([],[])).1)
theorem uG(l:M)(p:T×T):FJ K (l++[p])=FJ K l++[Mj K (l++[p]) (K.nm p.1)]:=by
 unfold FJ;rw[Az,Kn,List.range_succ,D6,List.map_singleton]
 congr 1
 ·refine Q3 fun j hj=>?_
  have hj:=List.mem_range.1 hj;rw[List.take_append_of_le_length (by omega)]
  congr 2
  simp[Ir,List.getElem?_append_left hj]
 ·rw[I7 (by simp)];simp[Ir]
theorem aAH{F G:M}(hF:Up F)(hG:Up G)(h:∀ k,get F k=get G k):F=G:=
 ah hF hG fun p=>⟨fun hp=>get_some (by rw[←h];exact get_mem hF (show(p.1,p.2)∈F from hp)),fun hp=>get_some (by rw[h];exact get_mem hG (show(p.1,p.2)∈G from hp))⟩
theorem pO(hu:Up A)(l:M)(name:T):get (made A (FJ K l)) name=if name∈l.map (fun p=>K.nm p.1) then some ((BS (BG K l name)).getD []) else get A name:=by
 induction l using UN with
 |h0=>rfl
 |h1 l p ih=>
  rw[uG,sK]
  show get (put (K.nm p.1) _ (made A (FJ K l))) name=_
  rw[get_put (hu.made _),D6,List.map_singleton];by_cases e:name=K.nm p.1
  ·subst e;rw[Ac rfl,Ac (by simp)];rfl
  ·have e2:¬ K.nm p.1=name:=fun h=>e h.symm
   rw[Aa e,ih,NH,Aa e2];by_cases hm:name∈l.map fun p=>K.nm p.1
   ·rw[Ac hm,Ac (List.mem_append_left _ hm)]
   ·have hn:¬ name∈(l.map fun p=>K.nm p.1)++[K.nm p.1]:=fun h=>(EG.1 h).elim hm (fun h=>e (FC.1 h))
    rw[Aa hm,Aa hn]
theorem alv(l:M):(EZ K l).map (·.name)=Bc (l.map fun p=>K.nm p.1):=by
 unfold EZ;rw[Ko]
 conv=>rhs;rw[←List.map_id (Bc (l.map fun p=>K.nm p.1))]
 exact Q3 fun x _=>rfl
theorem YU(hu:Up A)(l:M)(name:T):get (made A (EZ K l)) name=if name∈l.map (fun p=>K.nm p.1) then some ((BS (BG K l name)).getD []) else get A name:=by
 by_cases hm:name∈l.map fun p=>K.nm p.1
 ·rw[Ac hm];have hc:Mj K l name∈EZ K l:=Hl ((Eg _ _).2 hm);have:=zI hu (by rw[alv];exact Wm _) hc;exact this
 ·rw[Aa hm];exact iY hu (by rw[alv,Eg];exact hm)
theorem l7(hu:Up A)(l:M):made A (FJ K l)=made A (EZ K l):=aAH (hu.made _) (hu.made _) fun k=>by rw[pO hu,YU hu]
theorem bz{l:M}{d:T}(h:BS l=some d):d.length≤65535:=by
 unfold BS at h;cases h1:FI l with
 |none=>rw[h1] at h;cases h
 |some s=>
  rw[h1] at h;simp only[CF] at h;split at h
  ·simp only[Ci] at h;subst h;rw[A9.RU];omega
  ·cases h
theorem ach(hK:K.BX){l:M}(h:Fits K l){p:T×T}(hp:p∈l):(Mj K l (K.nm p.1)).may=true:=by
 obtain⟨d,hd⟩:=LM.1 (h.all p hp);have hl:=hK.len p.1;have hne:K.nm p.1≠[]:=fun e=>by rw[e] at hl;cases hl
 have:=bz hd;unfold Mj Am.may Fq;rw[hd];simp[hne,hl,this]
theorem alu(hK:K.BX){l:M}(h:Fits K l):(EZ K l).all Am.may=true:=by
 rw[Mr];intro c hc;obtain⟨name,hn,rfl⟩:=BA.1 hc;obtain⟨p,hp,rfl⟩:=BA.1 ((Eg _ _).1 hn);exact ach hK h hp
def GH(K:Kind)(n:Nat)(A:M)(l:M):Int×M:=if Fits K l then(Fy n A (EZ K l),Es n A (EZ K l)) else(5,A)
theorem acm(hK:K.BX){n:Nat}{l:M}(h:Fits K l):GH K n A l=if Cn n < used (made A (EZ K l)) then(4,A) else(0,made A (EZ K l)):=by
 unfold GH Fy Es;rw[Ac h,alu hK h];by_cases hr:Cn n < used (made A (EZ K l))
 ·rw[Ac hr,Aa (by simp),Ac hr,Aa (fun e=>by have:=e.2;omega)]
 ·rw[Aa hr,Aa (by simp),Aa hr,Ac ⟨rfl,by omega⟩]
end
end Kp
namespace Kp
open Go.Lib Go.RowKit Af Ap Aq Bu
structure EM(K:Kind)(lt:M)(L:List (T×M)):Prop where
 nodup:(L.map (·.1)).Nodup
 names:∀ t,t∈L.map (·.1)↔t∈lt.map fun p=>K.nm p.1
 rows:∀ x∈L,x.2=BG K lt x.1
section
variable {K:Kind}{A:M}
theorem EM.nil:EM K [] []:=⟨by simp,fun t=>by simp,fun x hx=>by simp at hx⟩
theorem EM.more{lt:M}{L:List (T×M)}(h:EM K lt L){p:T×T}(hk:K.nm p.1∈L.map (·.1)):EM K (lt++[p]) (setRow L (K.nm p.1) (put p.1 p.2 (BG K lt (K.nm p.1)))):=by
 refine⟨by rw[uC];exact h.nodup,fun t=>?_,fun x hx=>?_⟩
 ·rw[uC,h.names,D6,EG];constructor
  ·exact .inl
  ·rintro(e|e)
   ·exact e
   ·rw[List.map_singleton,FC] at e;rw[e];exact(h.names _).1 hk
 ·unfold setRow at hx;obtain⟨y,hy,rfl⟩:=BA.1 hx;by_cases e:y.1=K.nm p.1
  ·rw[Ac e]
   show _=BG K (lt++[p]) y.1
   rw[e,NH,Ac rfl]
  ·rw[Aa e,NH,Aa (fun e'=>e e'.symm)];exact h.rows y hy
theorem EM.new{lt:M}{L:List (T×M)}(h:EM K lt L){p:T×T}(hk:K.nm p.1∉L.map (·.1)):EM K (lt++[p]) ((K.nm p.1,put p.1 p.2 []) :: L):=by
 refine⟨Ju.2 ⟨hk,h.nodup⟩,fun t=>?_,fun x hx=>?_⟩
 ·rw[Ce,BZ,h.names,D6,EG];constructor
  ·rintro(e|e)
   ·exact .inr (by simp[e])
   ·exact .inl e
  ·rintro(e|e)
   ·exact .inr e
   ·exact .inl (by simpa using e)
 ·rcases BZ.1 hx with rfl|hx
  ·show _=BG K (lt++[p]) (K.nm p.1)
   rw[NH,Ac rfl,j3 (fun e=>hk ((h.names _).2 e))]
  ·rw[h.rows x hx,NH,Aa (fun e=>hk (by rw[e];exact Hl hx))]
theorem tY{lt:M}{L:List (T×M)}(h:EM K lt L):L.length≤lt.length:=by
 have h1:(Da L).length=L.length:=tq L;rw[tu h.nodup] at h1;have h2:Bc (L.map (·.1))=Bc (lt.map fun p=>K.nm p.1):=QU (JQ _) (JQ _) fun t=>by rw[Eg,Eg];exact h.names t
 have h3:=UM (lt.map fun p=>K.nm p.1);rw[←h2,h1,Ca] at h3;exact h3
theorem EM.oz{l:M}{L:List (T×M)}(h:EM K l L):KL L=EZ K l:=by
 have hn:Da L=Bc (l.map fun p=>K.nm p.1):=by
  rw[tu h.nodup];refine QU (JQ _) (JQ _) fun t=>?_
  rw[Eg,Eg];exact h.names t
 unfold KL EZ;rw[hn];refine Q3 fun t ht=>?_
 rw[←hn] at ht;obtain⟨x,hx,rfl⟩:=BA.1 (kV.1 ht);rw[lq h.nodup hx,h.rows x hx];obtain⟨p,hp,e⟩:=BA.1 ((h.names x.1).1 (Hl hx));unfold M8 Mj;rw[Aa];rw[←e];exact ah3 hp
theorem EM.fits{l:M}{L:List (T×M)}(h:EM K l L)(hf:Fits K l):Ps L=true:=by
 unfold Ps;rw[Mr];intro t ht;obtain⟨x,hx,rfl⟩:=BA.1 (kV.1 ht);rw[lq h.nodup hx,h.rows x hx];obtain⟨p,hp,e⟩:=BA.1 ((h.names x.1).1 (Hl hx));unfold MN;rw[←e,hf.all p hp];simp
theorem akQ{l:M}(hu:Up l)(p:T×T):KX [l.filter (fun q=>!(q.1 == p.1)),[p]]=put p.1 p.2 l:=by
 have hd:del p.1 l=l.filter (fun q=>!(q.1 == p.1)):=rfl
 show G9 (G9 [] (F6 (l.filter _))) (F6 [p])=_
 rw[kW,←hd,an0 (hu.del _),←axe hu p.1 p.2]
 congr 1
 exact an0 (Sb _ _)
end
end Kp
namespace Kp
open Go.Lib Go.RowKit Af Ap Aq Bu Hex
abbrev Us:=List (T×List T)
def PZ(u:T×List T):T×T:=(u.1,(D5 (Bc u.2)).1)
def Bv(l:Us):M:=l.map PZ
def MK(l:Us):Prop:=∀ u∈l,(D5 (Bc u.2)).2=0
instance (l:Us):Decidable (MK l):=inferInstanceAs (Decidable (∀ u∈l,_))
def I5(n:Nat)(A:M)(l:Us):Int×M:=if MK l then GH Ab n A (Bv l) else(5,A)
theorem ami{l:List T}(h:(D5 l).2=0):Dl (D5 l).1=some l:=by
 unfold D5 at h ⊢;cases he:Gt l with
 |none=>rw[he] at h;cases h
 |some s=>exact alT he
theorem ayR{l:List T}:(D5 l).2=0↔(Gt l).isSome=true:=by
 unfold D5;cases Gt l<;>simp
theorem aAM{u:T×List T}(h:(D5 (Bc u.2)).2=0):Ab.ok (PZ u)=true:=by
 show rowOk _=true
 unfold rowOk PZ;rw[ami h]
 show decide (Bc (Bc u.2)=Bc u.2)=true
 rw[ll (JQ _)];exact OT rfl
theorem uT{l:Us}(h:MK l):∀ p∈Bv l,Ab.ok p=true:=fun p hp=>by
 obtain⟨u,hu,rfl⟩:=BA.1 hp;exact aAM (h u hu)
theorem uU(l:Us)(k:Nat):Bv (l.take k)=(Bv l).take k:=by unfold Bv;rw[List.map_take]
theorem OO(l:Us):(Bv l).length=l.length:=by unfold Bv;rw[Ca]
theorem aml{l:Us}{u:T×List T}:MK (l++[u])↔MK l∧(D5 (Bc u.2)).2=0:=by
 unfold MK;constructor
 ·intro h;exact⟨fun x hx=>h x (List.mem_append_left _ hx),h u (by simp)⟩
 ·rintro⟨h1,h2⟩ x hx;rcases EG.1 hx with e|e
  ·exact h1 x e
  ·obtain rfl:x=u:=(by simpa using e);exact h2
theorem anD(l:Us)(u:T×List T):Bv (l++[u])=Bv l++[PZ u]:=by unfold Bv;rw[D6];rfl
section
variable {K:Kind}{A:M}
theorem iR(hu:Up A)(Cv:∀ k,get A (K.nm k)=none){l:M}(hok:∀ p∈l,K.ok p=true)(hf:Fits K l)(k:T):fileOf K (made A (FJ K l)) (K.nm k)=if K.nm k∈l.map (fun p=>K.nm p.1) then some (BG K l (K.nm k)) else none:=by
 unfold fileOf;rw[pO hu];by_cases h:K.nm k∈l.map fun p=>K.nm p.1
 ·rw[Ac h,Ac h];obtain⟨p,hp,e⟩:=BA.1 h;have e:K.nm p.1=K.nm k:=e;rw[←e];have hc:=hf.all p hp;obtain⟨d,hd⟩:=LM.1 hc;rw[hd]
  show K.Cw _ d=_
  exact acs hd (ah3 hp) (SL _ _) fun q hq=>⟨(pV _ _ q hq).1,hok q (pV _ _ q hq).2⟩
 ·rw[Aa h,Aa h,Cv];rfl
theorem agc(hu:Up A)(Cv:∀ k,get A (K.nm k)=none){l:M}(hok:∀ p∈l,K.ok p=true)(hf:Fits K l)(k:T):(fileOf K (made A (FJ K l)) (K.nm k)).getD []=BG K l (K.nm k):=by
 rw[iR hu Cv hok hf];split
 ·rfl
 ·rename_i h
  rw[j3 h];rfl
theorem zq:Fits K []:=fun j hj=>by simp at hj
theorem al0{K':Kind}(hK:K.BX)(jc:K'.BX)(hd:∀ x,K.ours x=true→K'.ours x=true→False)(hu:Up A)(Cv:∀ k,get A (K.nm k)=none){n:Nat}(l:M):∀ k,get (GH K' n A l).2 (K.nm k)=none:=by
 intro k;unfold GH;split
 ·show get (Es n A (EZ K' l)) _=none
  unfold Es;split
  ·rw[YU hu,Aa,Cv];intro h;obtain⟨p,_,e⟩:=BA.1 h;exact hd _ (hK.Nb k) (by rw[←e];exact jc.Nb _)
  ·exact Cv k
 ·exact Cv k
theorem anB(hu:Up A)(l:M):used (made A (FJ K l))=used (made A (EZ K l)):=by rw[l7 hu]
end
end Kp
namespace Bu
open Af Ap
def JY(o:M)(k:T):Nat→Nat
 |0=>0
 |n+1=>if k < (o.getD n ([],[])).1 then JY o k n else n+1
def RJ(o:M)(x:T×T):M:=o.take (JY o x.1 o.length)++[x]++o.drop (JY o x.1 o.length)
def LF(l:M):M:=l.foldl RJ []
theorem afC(o:M)(k:T):∀ n,JY o k n≤n
 |0=>Ae _
 |n+1=>by
  unfold JY;split
  ·exact Nat.le_succ_of_le (afC o k n)
  ·exact Ae _
theorem afB(o:M)(k:T):∀ n,∀ i,JY o k n≤i→i < n→k < (o.getD i ([],[])).1
 |0,i,_,h=>absurd h (Nat.not_lt_zero _)
 |n+1,i,h1,h2=>by
  unfold JY at h1;split at h1
  ·rename_i hk
   by_cases e:i=n
   ·rw[e];exact hk
   ·exact afB o k n i h1 (by omega)
  ·omega
theorem yQ(o:M)(k:T):∀ n,∀ i,JY o k n=i+1→(o.getD i ([],[])).1≤k
 |0,i,h=>by unfold JY at h;omega
 |n+1,i,h=>by
  unfold JY at h;split at h
  ·exact yQ o k n i h
  ·rename_i hk
   obtain rfl:n=i:=(by omega);exact eu.1 hk
theorem avP(o:M)(x:T×T):(RJ o x).Perm (x :: o):=by
 unfold RJ;have h:=List.perm_middle (a:=x) (l₁:=o.take (JY o x.1 o.length)) (l₂:=o.drop (JY o x.1 o.length));rw[Mw] at h;rw[Dy];exact h
theorem amX{o:M}(h:CR o){k:T}{n:Nat}(hn:n≤o.length)(hl:∀ i,n=i+1→(o.getD i ([],[])).1≤k):∀ p∈o.take n,p.1≤k:=by
 intro p hp;obtain⟨j,hj,rfl⟩:=List.mem_iff_getElem.1 hp;rw[Be] at hj;rw[List.getElem_take];obtain⟨i,rfl⟩:∃ i,n=i+1:=⟨n -1,by omega⟩;have h1:=hl i rfl;rw[Ir,Ei (show i < o.length by omega),Option.getD_some] at h1;by_cases e:j=i
 ·subst e;exact h1
 ·exact List.le_trans (List.pairwise_iff_getElem.1 h j i (by omega) (by omega) (by omega)) h1
theorem avQ{o:M}(h:CR o)(x:T×T):CR (RJ o x):=by
 unfold RJ;have hc:=afC o x.1 o.length;refine List.pairwise_append.2 ⟨List.pairwise_append.2 ⟨h.sublist (List.take_sublist _ _),Sb _ _,fun a ha b hb=>?_⟩,h.sublist (List.drop_sublist _ _),fun a ha b hb=>?_⟩
 ·obtain rfl:b=x:=by simpa using hb
  exact amX h hc (fun i hi=>yQ o b.1 _ i hi) a ha
 ·obtain⟨j,hj,rfl⟩:=List.mem_iff_getElem.1 hb;rw[Cs] at hj;rw[List.getElem_drop];have hk:=afB o x.1 o.length (JY o x.1 o.length+j) (by omega) (by omega);rw[Ir,Ei (show JY o x.1 o.length+j < o.length by omega),Option.getD_some] at hk;rcases EG.1 ha with e|e
  ·exact List.le_trans (amX h hc (fun i hi=>yQ o x.1 _ i hi) a e) (kP hk)
  ·obtain rfl:a=x:=(by simpa using e);exact kP hk
theorem amQ(l:M):∀ o,CR o→CR (l.foldl RJ o)∧(l.foldl RJ o).Perm (o++l):=by
 induction l with
 |nil=>intro o ho;exact⟨ho,by simp⟩
 |cons x l ih=>
  intro o ho;obtain⟨h1,h2⟩:=ih (RJ o x) (avQ ho x);refine⟨h1,h2.trans ?_⟩;refine((avP o x).append_right l).trans ?_;exact List.perm_middle.symm
theorem amR(l:M):(LF l).Perm l:=(amQ l [] List.Pairwise.nil).2
theorem azJ(l:M):CR (LF l):=(amQ l [] List.Pairwise.nil).1
theorem azG(l:M):(LF l).length=l.length:=(amR l).length_eq
theorem azI(l:M)(x:T×T):LF (l++[x])=RJ (LF l) x:=by unfold LF;rw[List.foldl_append];rfl
theorem azH{l:M}(h:Up l)(k v:T):LF (l.filter (fun p=>!(p.1 == k))++[(k,v)])=put k v l:=by
 have hd:del k l=l.filter (fun q=>!(q.1 == k)):=rfl;rw[←hd];have hp:=amR (del k l++[(k,v)]);have hdu:=h.del k;refine ah (uS (azJ _) ?_) (h.put k v) fun p=>?_
 ·rw[(hp.map (·.1)).nodup_iff,D6,List.nodup_append];refine⟨hdu.nodup,by simp,fun a ha b hb=>?_⟩;simp only[Ce,Kq,FC] at hb;subst hb;obtain⟨q,hq,rfl⟩:=BA.1 ha;exact(XX.1 hq).2
 ·rw[hp.mem_iff,TC h,EG,XX,FC];exact⟨fun e=>e.elim .inr .inl,fun e=>e.elim .inr .inl⟩
end Bu
namespace Bu
open Go.RowKit Go.Maps
open Af Ap Aq
theorem amr{w:World}{a:Option Addr}{cap:Nat}{l:M}(h:Bj w a l)(hl:l.length≤1000000):
  Calls prog 245 #[.slice a l.length cap] w fun e w'=>e=.returned (.bool (decide (CR l)))∧Bw w w':=by
 have HH:=Hi h;clear h
 go_in
 go_wp2
 go_loopw [3] (fun i wr=>∃ k:Nat,1≤k∧(k≤l.length∨k=1)∧i=.int .i64 (k:Int)∧CR (l.take k)∧Bw w wr) (fun i _=>l.length -(intOf i).toNat)
 case atStart=>exact⟨1,Ae _,.inr rfl,rfl,by
  cases l with
  |nil=>exact List.Pairwise.nil
  |cons x l=>exact Sb _ _,Ah _ _⟩
 case round=>
  obtain⟨k,EX,hk,rfl,hs,hb⟩:=hrel;by_cases hlt:k < l.length
  ·obtain⟨p,Cx,hp,-⟩:=HH.index cap k hlt;obtain⟨p',aaC,MU,-⟩:=HH.index cap (k -1) (by omega);have QI:IntKind.i64.wrap ((k:Int) -1)=((k -1:Nat):Int):=(by rw[Eh _ (by omega)];omega);have c1:=(hp.upd (ub hb) (fun f=>f)).key;have c2:=(MU.upd (ub hb) (fun f=>f)).key;have HT:=Hi (fun hn=>amY hs EX hlt hn);have HN:=Hi (fun hn=>al2 EX hlt hn);have HB:=Hi hb;clear hs hb hp MU;generalize l[k]=x at*;generalize l[k -1]'(by omega)=y at*;by_cases J5:x.1 < y.1
   ·have Ct:Op.bytesLess x.1 y.1=true:=(by rw[Go.Proofs.bytesLess_eq];simpa using J5);have wU:=Hi (HN J5);clear HT HN J5;go_wp2;go_region;go_wp2;go_ret;exact⟨by first|rfl|(rw[decide_eq_false wU.out];rfl),HB.drew⟩
   ·have Ct:Op.bytesLess x.1 y.1=false:=(by rw[Go.Proofs.bytesLess_eq];simpa using J5);have U3:=Hi (HT J5);clear HT HN J5;go_wp2;go_region;go_wp2;go_roundw
    case rel=>exact⟨k+1,by omega,.inl (by omega),by go_num,U3.out,HB.drew⟩
    case measure=>simp[intOf];omega
  ·have HS:=Hi (show CR l from by
    have:=hs;rwa[I7 (by omega)] at this)
   have HB:=Hi hb;have dD:¬ (k:Int) < (l.length:Int):=(by omega);clear hs hb hlt;go_wp2;go_ret;exact⟨by first|rfl|(rw[OT HS.out];rfl),HB.out⟩
def apu(l:M)(k:Nat)(v:Value):Prop:=∃ S,v=.string (bs (A9.le 2 l.length++S))∧BB (flat (l.take k))=some S
theorem axI{l:M}{k:Nat}{S x y:T}(hk:k < l.length)(h:BB (flat (l.take k))=some S)(hx:l[k].1=x)(hy:l[k].2=y)(h1:x.length≤65535)(h2:y.length≤65535):BB (flat (l.take (k+1)))=some (S++(A9.le 2 x.length++x)++(A9.le 2 y.length++y)):=by
 have e1:BB (flat (l.take k)++[x])=some (S++(A9.le 2 x.length++x)):=by
  rw[acV h x];unfold Em;rw[Ac h1];rfl
 rw[zu hk,hx,hy,show flat (l.take k)++[x,y]=(flat (l.take k)++[x])++[y] by simp,acV e1 y];unfold Em;rw[Ac h2];rfl
theorem amn{w:World}{a:Option Addr}{cap:Nat}{l:M}(h:Bj w a l)(hs:CR l)(hl:l.length≤60000)(DC:rowLen (flat l)≤1000000000):
  Calls prog 186 #[.slice a l.length cap] w fun e w'=>e=.returned (.tuple #[.string (bs (Ef l).1),.int .i64 (Ef l).2])∧Bw w w':=by
 have HH:=Hi h;have Vk:=Hi DC;have HS:=Hi hs;have U1:=Hi (show FI l=(BB (flat l)).map (A9.le 2 l.length++ ·) from by unfold FI;rw[Ac (by omega)]);have nD:=Hi (show Ef l=match FI l with|none=>([],5)|some s=>(s,0) from rfl);generalize Ef l=V at*;clear h DC hs
 go_in
 go_wp2_with fail;refine(tJ l.length 2 _ (by omega) (by decide)).mono ?_;rintro e w1⟨rfl,hb⟩;have HB1:=Hi hb;clear hb;go_wp2
 go_loopw [4,5] (fun v i wr=>∃ (k:Nat),k≤l.length∧i=.int .i64 k∧apu l k v∧Bw w wr) (fun _ i _=>l.length -(intOf i).toNat)
 case atStart=>exact⟨0,by omega,rfl,⟨[],by rw[En],rfl⟩,HB1⟩
 case round=>
  clear HB1;obtain⟨k,hk,rfl,⟨S,rfl,hS⟩,hb⟩:=hrel;have Qi:=Hi hS;have HB:=Hi hb;clear hS hb;by_cases hlt:k < l.length
  ·obtain⟨q,Jm,hq,-⟩:=(HH.below HB).index cap k hlt;have c0:=hq.key;have c1:=hq.val;have GR:=amh l (k+1);have GU:=Wo Qi.out;have GV:=Vk.out;have Jn:rowLen (flat (l.take (k+1)))=rowLen (flat (l.take k))+(2+l[k].1.length)+(2+l[k].2.length):=by
    rw[zu hlt];have:=amg (flat (l.take k)) [l[k].1,l[k].2];have e:rowLen [l[k].1,l[k].2]=2+((2+l[k].1.length)+(2+l[k].2.length)):=(by unfold rowLen;simp);omega
   have Dh:=Hi (fun(x y:T) (hx:l[k].1=x) (hy:l[k].2=y)=>axI hlt Qi hx hy);have adT:=Hi (fun(x y:T) (hx:l[k].1=x) (hy:l[k].2=y) (hf:65535 < x.length∨65535 < y.length)=>show BB (flat l)=none from hf.elim (fun e=>acW (iU hlt (by rw[hx];simp)) e) (fun e=>acW (iU hlt (by rw[hy];simp)) e));obtain⟨x,hx⟩:=ex (l[k].1);obtain⟨y,hy⟩:=ex (l[k].2);have hle:S.length+x.length+y.length≤1000000000:=(by rw[←hx,←hy];omega);have LZ:=Hi (Dh x y hx hy);have gG:=Hi (adT x y hx hy);rw[hx] at c0;rw[hy] at c1;clear Dh adT hq hx hy GR GU GV Jn;by_cases Ee:x.length≤65535
   ·by_cases N7:y.length≤65535
    ·have Yw:=Hi (LZ Ee N7);clear LZ gG;go_wp2_with fail;refine(lG x _ Ee).mono ?_;rintro e w3⟨rfl,Aw⟩;have AA:=bH HB Aw;have c1:w3.cell? ⟨q.block,q.off+1,none⟩=some (.string (bs y)):=(Aw.cell (p:=⟨q.block,q.off+1,none⟩) (D7 c1)).trans c1;clear Aw;go_wp2_with fail;refine(lG y _ N7).mono ?_;rintro e w4⟨rfl,AB⟩;have AU:=bH AA AB;clear AB;have BJ:∀ z:T,(A9.le 2 z.length++z).length=2+z.length:=fun z=>by rw[Az,A9.BV]
     go_wp2;go_roundw
     case rel=>exact⟨k+1,by omega,by go_num,⟨_,by first|rfl|simp only[Dy],Yw⟩,AU⟩
     case measure=>simp[intOf];omega
    ·have DJ:=Hi (gG (.inr (by omega)));have kJ:65535 < y.length:=(by omega);clear LZ gG;go_wp2_with fail;refine(lG x _ Ee).mono ?_;rintro e w3⟨rfl,Aw⟩;have AA:=bH HB Aw;have c1:w3.cell? ⟨q.block,q.off+1,none⟩=some (.string (bs y)):=(Aw.cell (p:=⟨q.block,q.off+1,none⟩) (D7 c1)).trans c1;clear Aw;go_wp2_with fail;refine(lF y _ kJ).mono ?_;rintro e w4⟨rfl,rfl⟩;go_wp2;go_ret2;exact⟨by rw[show V=([],5) from by rw[nD.out,show FI l=none from by rw[U1.out,DJ.out];rfl]];rfl,AA⟩
   ·have DJ:=Hi (gG (.inl (by omega)));have Ea:65535 < x.length:=(by omega);clear LZ gG;by_cases N7:y.length≤65535
    ·go_wp2_with fail;refine(lF x _ Ea).mono ?_;rintro e w3⟨rfl,rfl⟩;go_wp2_with fail;refine(lG y _ N7).mono ?_;rintro e w4⟨rfl,AB⟩;have AU:=bH HB AB;clear AB;go_wp2;go_ret2;exact⟨by rw[show V=([],5) from by rw[nD.out,show FI l=none from by rw[U1.out,DJ.out];rfl]];rfl,AU⟩
    ·have kJ:65535 < y.length:=(by omega);go_wp2_with fail;refine(lF x _ Ea).mono ?_;rintro e w3⟨rfl,rfl⟩;go_wp2_with fail;refine(lF y _ kJ).mono ?_;rintro e w4⟨rfl,rfl⟩;go_wp2;go_ret2;exact⟨by rw[show V=([],5) from by rw[nD.out,show FI l=none from by rw[U1.out,DJ.out];rfl]];rfl,HB⟩
  ·obtain rfl:k=l.length:=(by omega);have Qh:=Hi (amr (cap:=cap) (HH.below HB) (by omega));rw[OT HS.out] at Qh
   have HT:=Hi (show FI l=some (A9.le 2 l.length++S) from by
    have:=Qi.out;rw[Dq] at this;rw[U1.out,this];rfl)
   go_wp2_with fail;refine Qh.mono ?_;rintro e w4⟨rfl,AB⟩;have AU:=bH HB AB;clear AB;go_wp2;go_ret2;exact⟨by rw[show V=(A9.le 2 l.length++S,0) from by rw[nD.out,HT.out]];rfl,AU⟩
def apz(w:World)(s:T)(n:Nat)(sv lv iv:Value)(wr:World):Prop:=∃ (i:Nat) (S:T) (l:M),sv=.string (bs S)∧iv=.int .i64 (i:Int)∧mG w s n i S l lv wr
theorem am5(s:T)(L:M)(hL:Ht s=some L)(w:World)(hs:s.length≤1000000000):Calls prog 242 #[.string (bs s)] w fun e w'=>∃ v,e=.returned (.tuple #[v,.int .i64 0])∧BK w' w.heap.size v L∧Bw w w':=by
 obtain⟨i0,Bg,AX,AY,Ba⟩:=DI RO;have h2:¬ s.length < 2:=fun h=>by unfold Ht at hL;rw[Ac h] at hL;cases hL
 have Gz:∀ W,(Instr.slice 9 (.string (bs s)) none (some (.int .i64 2)) none).run prog W=.ok (.string (bs (s.take 2))) W:=fun W=>O1 prog W 9 underlying9 s 2 (by omega)
 have Xn:∀ W,(Instr.slice 9 (.string (bs s)) (some (.int .i64 2)) none none).run prog W=.ok (.string (bs (s.drop 2))) W:=fun W=>Mk prog W 9 underlying9 s 2 (by omega)
 have hlt:(s.take 2).length=2:=by rw[Be];omega
 have hv:=A9.Jb (s.take 2);rw[hlt] at hv;have YN:=Hi (fun(W:World)=>adk (s.take 2) W (by omega));obtain⟨n,hn⟩:=ex (A9.val (s.take 2));have DT:=Hi (show some L=(EF (2*n) (s.drop 2)).bind fun q=>if q.2=[]∧CR (RZ q.1) then some (RZ q.1) else none from by rw[←hL];unfold Ht;rw[Aa h2,hn]);rw[hn] at YN hv;have JH:n < 65536:=hv;have hsi:¬ (s.length:Int) < 2:=by omega
 have e2:IntKind.i64.wrap (n:Int)=(n:Int):=Eh _ (by omega);clear hn hlt hv hL
 go_in
 go_wp2_with fail;refine(YN _).mono ?_;rintro e w1⟨rfl,rfl⟩;go_wp2
 go_loopw [0,5,6] (fun sv lv iv wr=>apz w s n sv lv iv wr) (fun _ _ iv _=>n -(intOf iv).toNat)
 case atStart=>exact⟨0,s.drop 2,[],rfl,rfl,AZ _,rfl,by rw[Cs];omega,by simp[flat],by unfold BK;rw[Rp];exact E5 _ _ _ _,Ah _ _⟩
 case round=>
  obtain⟨i,S,l,rfl,rfl,Bl⟩:=hrel;have Bi:=Hi Bl;have Px:=Bl.short;have hle:=Bl.le;by_cases hlt:i < n
  ·cases hr:DF S with
   |none=>
    have:=DT.out;rw[eO (j:=2*i) (by omega) Bl.read hr] at this;cases this
   |some r=>
    obtain⟨k,n1⟩:=r;obtain⟨_,Et,_⟩:=ZV hr;have hV:Fs S=(k,n1,0):=(by unfold Fs;rw[hr]);have Ic:=Hi (fun(W:World)=>uw S W (by omega));rw[hV] at Ic;have Ej:=Hi (eQ (j:=2*i) (by omega) Bl.read hr);have hcut:∀ W,(Instr.slice 9 (.string (bs S)) (some (.int .i64 (n1:Int))) none none).run prog W=.ok (.string (bs (S.drop n1))) W:=fun W=>Mk prog W 9 underlying9 S n1 Et
    cases DN:DF (S.drop n1) with
    |none=>
     have:=DT.out;rw[eO (j:=2*i+1) (by omega) Ej DN] at this;cases this
    |some r2=>
     obtain⟨v,n2⟩:=r2;obtain⟨_,Gm,_⟩:=ZV DN;rw[Cs] at Gm;have Lj:Fs (S.drop n1)=(v,n2,0):=(by unfold Fs;rw[DN]);have Re:=Hi (fun(W:World)=>uw (S.drop n1) W (by rw[Cs];omega));rw[Lj] at Re;have YE:=Hi (eQ (j:=2*i+1) (by omega) Ej DN);have au8:∀ W,(Instr.slice 9 (.string (bs S)) (some (.int .i64 ((n1:Int)+(n2:Int)))) none none).run prog W=.ok (.string (bs (S.drop (n1+n2)))) W:=fun W=>by
      have:=Mk prog W 9 underlying9 S (n1+n2) (by omega);rwa[Int.natCast_add] at this
     have ZE:IntKind.i64.wrap ((n1:Int)+(n2:Int))=(n1:Int)+(n2:Int):=Eh _ (by omega);have DC:(n1:Int)+(n2:Int)≤1000000000:=(by omega);have avg:(n1:Int)+(n2:Int)≤(S.length:Int):=(by omega);have avh:((n1:Int)+(n2:Int)).toNat=n1+n2:=(by omega);have P7:=Hi Et;have LZ:=Hi Gm;obtain⟨qo,co,rfl⟩:=Bp Bl.row;clear Bl hV hr Lj DN Et Gm;go_wp2_with fail;refine(Ic _).mono ?_;rintro e w2⟨rfl,rfl⟩;go_wp2_with fail;refine(Re _).mono ?_;rintro e w3⟨rfl,rfl⟩;have Dz:=Hi Bi.AQ.size;go_wp2_with (at_builtin;refine wpList_append_own_at _ rfl _ _ 30 rfl w.heap.size 51 i0 _ 2 32 underlying30 Bg AX AY Ba rfl (by decide) _ l.length _ rfl (Bi.row.alloc _) ⟨wr.heap.size,0,none⟩ 1 1 [.string (bs k),.string (bs v)] rfl rfl (by intro j u hj;rw[add_plain,E8];exact(Dx▸hj)) (by simp[Value.oneCell']) (by unfold maxLen;have:=Bi.len;omega) (by have:=Bi.len;omega) (by have:=Dz.out;simp;omega) ?_;intro v' w4 Ck AJ _ hat;obtain⟨gg,cap2,rfl⟩:=ownsRow_succ Ck;have HO:=Hi Ck;have HG:=Hi AJ;clear Ck AJ hat)
     have YA:=Hi (show mG w s n (i+1) (S.drop (n1+n2)) (l++[(k,v)]) (.slice (some ⟨gg,0,none⟩) (l.length+1) cap2) w4 from
      ⟨by omega,by rw[Az,Bi.len];rfl,by rw[Cs];omega,by
       have:=YE.out;rw[show 2*n -(2*i+1+1)=2*n -2*(i+1) by omega,List.drop_drop] at this;rw[this,zt]
       congr 1
       funext q
       simp[flat],by unfold BK;rw[Az,Uf];exact HO.out,
       (Bi.AQ.alloc Bi.AQ.size _).grown HG (by have:=Bi.AQ.size;rw[Ar];omega) (fun k e=>Ec Bi.row e)⟩)
     go_roundw
     case rel=>
      first
      |exact⟨i+1,S.drop (n1+n2),l++[(k,v)],rfl,by go_num,YA⟩
      |(repeat apply Exists.intro
        refine⟨?_,rfl⟩;exact⟨i+1,S.drop (n1+n2),l++[(k,v)],rfl,by go_num,YA⟩)
     case measure=>
      show n -((i:Int)+1).toNat < n -((i:Int)).toNat
      omega
  ·obtain rfl:i=n:=(by omega);have Mh:EF (2*i) (s.drop 2)=some (flat l,S):=by
    rw[Bl.read,Nat.sub_self];simp[EF]
   have Xg:=DT.out;rw[Mh] at Xg;simp only[CF] at Xg;rw[uQ] at Xg;obtain⟨qo,co,rfl,Zv,Z9⟩:=Fz Bl.row;have Yl:=Hi (amr (cap:=co) (Bj.D9 Bl.row) (by have:=Bl.len;omega));clear Bl Mh;by_cases hS:S=[]∧CR l
   ·rw[Ac hS] at Xg;obtain⟨hS1,qp⟩:=hS;subst hS1;obtain rfl:L=l:=Gu Xg;rw[OT qp] at Yl;clear qp Xg;go_wp2_with fail;refine Yl.mono ?_;rintro e w2⟨rfl,hb⟩;have BU:=Hi (Ch Bi.row hb);have HB:=Hi (Bi.AQ.trans (hb.mono Bi.AQ.size));clear hb;go_wp2_with fail;exact EI (v:=.tuple #[.slice qo L.length co,.int .i64 0]) (by simp[results,results242,go_sem]) rfl ⟨_,rfl,BU,HB⟩
   ·rw[Aa hS] at Xg;cases Xg
end Bu
section
open Go.RowKit
open BD
theorem ayZ(x:Int)(n:Nat)(h0:0 < n)(hn:n < 32)(w:World):
  Calls prog 283 #[.int .u32 x,.int .i64 n] w fun e w'=>e=.returned (.int .u32 (Ip x n))∧w'=w:=by
 have h1:(n:Int) < 32:=by omega
 have h2:(0:Int) < n:=by omega
 go_in
 go_wp2;go_ret;exact⟨rfl,rfl⟩
theorem uy(x:Int)(n:Int)(h0:0 < n)(hn:n < 32)(w:World):
  Calls prog 283 #[.int .u32 x,.int .i64 n] w fun e w'=>e=.returned (.int .u32 (Ip x n.toNat))∧w'=w:=by
 obtain⟨m,rfl⟩:=Int.eq_ofNat_of_zero_le (Int.le_of_lt h0);exact ayZ x m (by omega) (by omega) w
theorem aAv(w:World):(Instr.makeSlice 314 (.int .i64 64) (.int .i64 64)).run prog w=.ok (.slice (some ⟨w.heap.size,0,none⟩) 64 64) (w.alloc (.cells (Bn (zeros 64)) 281)):=by
 have Zg:(prog.info? 281).map (fun i=>(i.zero,i.size,i.bytes))=some (some (.int .u32 0),1,4):=by kernel_rfl
 obtain⟨i0,hi,AX,AY,Ba⟩:=DI Zg;have hrun:=run_make (P:=prog) w 314 281 i0 _ underlying314 hi AX .i64 .i64 64 64 (by omega) (Int.le_refl _) (by rw[Ba];omega) (by omega);rw[AY] at hrun;have e:madeCells (Value.int .u32 0).cells ((64:Int).toNat*1)=Bn (zeros 64):=by unfold Bn zeros;kernel_rfl
 rw[e] at hrun;exact hrun
theorem LH{cap g:Nat}(n k:Nat)(hk:k < n)(W:World):(Instr.indexAt 314 (.slice (some ⟨g,0,none⟩) n cap) (.int .i64 (k:Int))).run prog W=.ok (.pointer (some ⟨g,k,none⟩)) W:=by
 have h:=IM prog 314 281 underlying314 1 (by kernel_rfl) ⟨g,0,none⟩ n cap k hk W;rw[add_plain,Nat.mul_one] at h;exact h
theorem azl(b:List UInt8)(hb:b.length=64)(w:World):
  Calls prog 282 #[.string (bs b)] w fun e w'=>∃ g,e=.returned (.slice (some ⟨g,0,none⟩) 64 64)∧w.heap.size≤g∧w'.heap[g]?=some (.cells (Bn (CV b 48)) 281)∧Bw w w':=by
 have NS:=aAv w
 go_in
 go_wp2
 go_loopw [4] (fun i wr=>∃ k:Nat,k≤16∧i=.int .i64 k∧Bw w wr∧wr.heap[w.heap.size]?=some (.cells (Bn (SI b k)) 281)) (fun i _=>16 -(intOf i).toNat)
 case atStart=>exact⟨0,by omega,rfl,(Ah _ _).alloc (Ae _) _,AP _ _⟩
 case round=>
  obtain⟨k,hk,rfl,CY,Ag⟩:=hrel;have HB:=Hi CY;have HR:=Hi Ag;by_cases hlt:k < 16
  ·have FW:wr.cell? ⟨w.heap.size,k,none⟩=some (.int .u32 ((SI b k)[k]'(by rw[bF _ _ (by omega)];omega))):=by
    rw[BF _ _ _ _ _ _ Ag,RY _ _ (by rw[bF _ _ (by omega)];omega)]
   have Ow:=Cu _ _ k _ _ Ag;generalize (SI b k)[k]'(by rw[bF _ _ (by omega)];omega)=x0 at FW;have i1:=Y5 b (4*k) (by omega) (4*(k:Int)) (by omega);have i2:=Y5 b (4*k+1) (by omega) (4*(k:Int)+1) (by omega);have i3:=Y5 b (4*k+2) (by omega) (4*(k:Int)+2) (by omega);have i4:=Y5 b (4*k+3) (by omega) (4*(k:Int)+3) (by omega);have Cx:=fun W=>LH (g:=w.heap.size) (cap:=64) 64 k (by omega) W
   clear CY Ag;go_wp2;go_region;go_wp2;go_roundw
   case rel=>exact⟨k+1,by omega,by go_num,((HB.setCell (p:=⟨w.heap.size,k,none⟩) (Ae _) _).drew),by
    have h:=Cf wr w.heap.size k _ _ (.int .u32 (be b k)) HR;rw[uO,agf b k (by omega)] at h;exact h⟩
   case measure=>simp[intOf];omega
  ·obtain rfl:k=16:=(by omega);clear CY Ag;go_wp2
   go_loopw [5] (fun i wr=>∃ k:Nat,k≤48∧i=.int .i64 ((16+k:Nat):Int)∧Bw w wr∧wr.heap[w.heap.size]?=some (.cells (Bn (CV b k++zeros (48 -k))) 281)) (fun i _=>64 -(intOf i).toNat)
   case atStart=>exact⟨0,by omega,rfl,HB,HR⟩
   case round=>
    clear HB HR;obtain⟨k,hk,rfl,CY,Ag⟩:=hrel;have HB:=Hi CY;have HR:=Hi Ag;clear CY Ag;by_cases hlt:k < 48
    ·have hlen:=ak b k
     have KP:=Hi (fun(V:World) (h:V.heap[w.heap.size]?=some (.cells (Bn (CV b k++zeros (48 -k))) 281))=>(show(∀ j,j < 16+k→V.cell? ⟨w.heap.size,j,none⟩=some (.int .u32 ((CV b k).getD j 0)))∧(∃ v0,V.cell? ⟨w.heap.size,16+k,none⟩=some v0)∧V.frozen? ⟨w.heap.size,16+k,none⟩=false from by
      have hl:(CV b k++zeros (48 -k)).length=64:=(by rw[Az,hlen];unfold zeros;simp;omega);refine⟨fun j hj=>?_,⟨_,(BF _ _ _ _ _ _ h).trans (RY _ _ (by omega))⟩,Cu _ _ _ _ _ h⟩;rw[BF _ _ _ _ _ _ h,RY _ _ (by omega),List.getElem_append_left (by omega),Ir,Ei (by omega)];rfl))
     have Bi:=Hi (show(CV b k++zeros (48 -k)).set (16+k) (ZO (CV b k) (16+k))=CV b (k+1)++zeros (48 -(k+1)) from by
      have e:=abO (CV b k) (48 -(k+1)) (ZO (CV b k) (16+k));rw[hlen,show 48 -(k+1)+1=48 -k by omega] at e;exact e)
     unfold ZO at Bi;obtain⟨t,ht⟩:=ex (16+k);obtain⟨Js,VB⟩:=ex (t -16);obtain⟨QJ,j5⟩:=ex (t -15);obtain⟨j7,h7⟩:=ex (t -7);obtain⟨j2,h2⟩:=ex (t -2);rw[ht] at KP Bi ⊢;rw[VB,j5,h7,h2] at Bi;have e16:(t:Int) -16=(Js:Int):=(by omega);have e15:(t:Int) -15=(QJ:Int):=(by omega);have e7:(t:Int) -7=(j7:Int):=(by omega);have e2:(t:Int) -2=(j2:Int):=(by omega);have b0:(t:Int) < 64:=(by omega);have Ns:=Hi (show t+1=16+(k+1)∧k < 48 from by omega);obtain⟨hc,⟨v0,hcz⟩,Ow⟩:=KP _ HR.out;have c16:=hc Js (by omega);have c15:=hc QJ (by omega);have c7:=hc j7 (by omega);have c2:=hc j2 (by omega);have aBy:=fun W=>LH (g:=w.heap.size) (cap:=64) 64 Js (by omega) W
     have aBw:=fun W=>LH (g:=w.heap.size) (cap:=64) 64 QJ (by omega) W
     have x7i:=fun W=>LH (g:=w.heap.size) (cap:=64) 64 j7 (by omega) W
     have x2i:=fun W=>LH (g:=w.heap.size) (cap:=64) 64 j2 (by omega) W
     have xti:=fun W=>LH (g:=w.heap.size) (cap:=64) 64 t (by omega) W
     have aBz:=aBy;have aBx:=aBw;have x7k:=x7i;have x2k:=x2i;rw[←e16] at aBz;rw[←e15] at aBx;rw[←e7] at x7k;rw[←e2] at x2k;have b16:(Js:Int) < 64:=(by omega);have b15:(QJ:Int) < 64:=(by omega);have b7:(j7:Int) < 64:=(by omega);have b2:(j2:Int) < 64:=(by omega);have w16:IntKind.i64.wrap (Js:Int)=(Js:Int):=(by rw[IntKind.wrap];simp[IntKind.bits,IntKind.signed];omega);have w15:IntKind.i64.wrap (QJ:Int)=(QJ:Int):=(by rw[IntKind.wrap];simp[IntKind.bits,IntKind.signed];omega);have w7:IntKind.i64.wrap (j7:Int)=(j7:Int):=(by rw[IntKind.wrap];simp[IntKind.bits,IntKind.signed];omega);have w2:IntKind.i64.wrap (j2:Int)=(j2:Int):=(by rw[IntKind.wrap];simp[IntKind.bits,IntKind.signed];omega);clear hc hlen ht VB j5 h7 h2 hlt hk;obtain⟨Wq,dS⟩:=ex ((CV b k).getD Js 0);obtain⟨UU,kF⟩:=ex ((CV b k).getD QJ 0);obtain⟨x7,UF⟩:=ex ((CV b k).getD j7 0);obtain⟨x2,Ea⟩:=ex ((CV b k).getD j2 0);rw[kF] at c15 Bi;rw[Ea] at c2 Bi;rw[dS] at c16 Bi;rw[UF] at c7 Bi;clear dS kF UF Ea;go_wp2
     go_region_held3 (fun V=>V.cell? ⟨w.heap.size,QJ,none⟩=some (.int .u32 UU)) (go_keep)
      (first|(go_at_call 283;refine(uy UU _ (by decide) (by decide) _).mono ?_;rintro e wA ⟨rfl,rfl⟩))
     go_wp2
     go_region_held3 (fun V=>V.cell? ⟨w.heap.size,j2,none⟩=some (.int .u32 x2)) (go_keep)
      (first|(go_at_call 283;refine(uy x2 _ (by decide) (by decide) _).mono ?_;rintro e wA ⟨rfl,rfl⟩))
     go_wp2;go_region;go_wp2_with fail;refine⟨?_,?measure⟩
     ·repeat apply Exists.intro
      refine⟨?rel,rfl⟩
      case rel=>
       refine⟨k+1,by have:=Ns.out;omega,by have:=Ns.1;go_num,?_,?_⟩
       ·exact(((HB.setCell (p:=⟨w.heap.size,t,none⟩) (Ae _) _).drew).drew).drew
       ·have h:=Cf wr w.heap.size t _ _ (.int .u32 ((sig x2 17 19 10+x7+sig UU 7 18 3+Wq) % 4294967296)) HR.out;have e2:(CV b k++zeros (48 -k)).set t ((sig x2 17 19 10+x7+sig UU 7 18 3+Wq) % 4294967296)=CV b (k+1)++zeros (48 -(k+1)):=by
         rw[show(sig x2 17 19 10+x7+sig UU 7 18 3+Wq) % 4294967296=(((Wq+sig UU 7 18 3) % 4294967296+x7) % 4294967296+sig x2 17 19 10) % 4294967296 by omega];exact Bi.out
        rw[uO,e2] at h;exact h
     show 64 -((t:Int)+1).toNat < 64 -(t:Int).toNat
     omega
    ·obtain rfl:k=48:=(by omega);clear hlt;go_wp2;go_ret;have h:=HR.out;rw[show 48 -48=0 from rfl,show zeros 0=[] from rfl,En] at h;exact⟨w.heap.size,rfl,Ae _,h,HB⟩
end
section
open Go.RowKit Go.Maps
open BD
def ML(w:World)(g:Nat)(l:List Int):Prop:=∀ i,i < l.length→w.cell? ⟨g,i,none⟩=some (.int .u32 (l.getD i 0))
theorem ML.below{w w':World}{g:Nat}{l:List Int}(h:ML w g l)(hb:Bw w w'):ML w' g l:=fun i hi=>by
 have:=h i hi;exact(hb.cell (D7 this)).trans this
theorem uW{w:World}{g:Nat}{l:List Int}{t:TypeId}(h:w.heap[g]?=some (.cells (Bn l) t)):ML w g l:=fun i hi=>by
 rw[BF _ _ _ _ _ _ h,RY _ _ hi,Ir,Ei hi];rfl
theorem aAu:(prog.info? 281).map (fun i=>(i.zero,i.size,i.bytes))=some (some (.int .u32 0),1,4):=by kernel_rfl
def QW(l:List Int):List Value:=l.map fun x=>.int .u32 x
theorem anP{w:World}{base g n cap:Nat}{l:List Int}(h:w.ownsRow base 281 1 (.slice (some ⟨g,0,none⟩) n cap) n (QW l)):ML w g l:=fun i hi=>by
 have hc:=h.cells (g:=g) rfl;have:=hc i (.int .u32 l[i]) (by unfold QW;rw[O3,Ei hi];rfl);rw[add_plain] at this;rw[this,Ir,Ei hi];rfl
theorem lC{w:World}{base:Nat}{e:TypeId}{size:Nat}{v:Value}{n:Nat}{xs:List Value}(h:w.ownsRow base e size v n xs){b:Nat}(hb:v.ownBlock=some b):base≤b:=by
 rcases h.2 with⟨rfl,_⟩|⟨g,cap,cur,rfl,Gh,_⟩
 ·simp[Value.ownBlock] at hb
 ·simp[Value.ownBlock] at hb;omega
theorem aA6(h V:List Int)(k:Nat)(hk:k < 8):(sumTo h V 8).take (k+1)=(sumTo h V 8).take k++[(h.getD k 0+V.getD k 0) % 4294967296]:=by
 have hl:k < (sumTo h V 8).length:=by rw[lL];exact hk
 rw[CQ hl];have:=acS h V 8 k hk;rw[Ac hk,Ir,Ei hl,Option.getD_some] at this;rw[this]
theorem aA9(a s c k w:Int):((a+s+c+k) % 4294967296+w) % 4294967296=((((a+s) % 4294967296+c) % 4294967296+k) % 4294967296+w) % 4294967296:=by omega
theorem wrap32(x:Int):IntKind.u32.wrap x=x % 4294967296:=by simp[IntKind.wrap,IntKind.bits,IntKind.signed]
theorem ayh{w:World}{gh gk ch' yK:Nat}{h:List Int}(b:List UInt8)(hb:b.length=64)(hh:h.length=8)(H:ML w gh h)(K:ML w gk FY):
  Calls prog 275 #[.slice (some ⟨gh,0,none⟩) 8 ch',.slice (some ⟨gk,0,none⟩) 64 yK,.string (bs b)] w fun e w'=>∃ g c,e=.returned (.slice (some ⟨g,0,none⟩) 8 c)∧w.heap.size≤g∧ML w' g (Pp h b)∧Bw w w':=by
 obtain⟨i0,Bg,AX,AY,Ba⟩:=DI aAu;have HH:=Hi H;have HK:=Hi K;clear H K
 go_in
 go_wp2_with fail;refine(azl b hb _).mono ?_;rintro e w1⟨gw,rfl,hgw,hw,Ai⟩;have HW:=Hi (uW hw);have HB1:=Hi Ai;have gP:=Hi (HH.below Ai);clear hw Ai;have XF:∀ j u,(QW h)[j]?=some u→w1.cell? ((⟨gh,0,none⟩:Addr).add j)=some u:=fun j u hu=>by
  have hj:j < h.length:=by
   have:=(TK.1 hu).1;simpa[QW] using this
  rw[add_plain,gP j hj];unfold QW at hu;rw[O3,Ei hj] at hu;rw[Ir,Ei hj];exact hu
 go_wp2_with (at_builtin;refine wpList_append_own_at w1 rfl _ _ 314 rfl w1.heap.size 281 i0 _ 1 4 underlying314 Bg AX AY Ba rfl (by decide) (.slice none 0 0) 0 [] rfl (E5 _ _ _ _) ⟨gh,0,none⟩ 8 ch' (QW h) rfl (by simp[QW,hh]) XF (by intro u hu;unfold QW at hu;obtain⟨x,_,rfl⟩:=BA.1 hu;rfl) (by unfold maxLen;omega) (by omega) (Ae _) ?_;intro v2 w2 Dj El _ _;rw[Ev,GJ] at Dj;obtain⟨g2,cap2,rfl⟩:=ownsRow_succ Dj;have Og:=Hi (anP Dj);have Ak:=Hi ((Ah _ w1).grown El (Ae _) (fun j e=>by cases e));clear Dj El);have Rj:=Hi (HW.below Ak);have Yp:=Hi (gP.below Ak);have P6:=Hi ((HK.below HB1).below Ak);have fU:=bH HB1 Ak;have Mg:=fun t=>amf (W:=CV b 48) hh t
 clear XF HW gP HB1 Ak HH HK
 go_loopw [8,9] (fun v i wr=>∃ (t gv cv:Nat),t≤64∧i=.int .i64 (t:Int)∧v=.slice (some ⟨gv,0,none⟩) 8 cv∧ML wr gv (rounds (CV b 48) h t)∧Bw w2 wr)
  (fun _ i _=>64 -(intOf i).toNat)
 case atStart=>exact⟨0,g2,cap2,by omega,rfl,rfl,Og,Ah _ _⟩
 case round=>
  obtain⟨t,gv,cv',ht,rfl,rfl,hv,Ad⟩:=hrel;have HV:=Hi hv;have HB:=Hi Ad;clear Og;by_cases hlt:t < 64
  ·have hl:=Mg t;obtain⟨V,Py⟩:=ex (rounds (CV b 48) h t);rw[Py] at hv hl;have hRt:=Hi (show rounds (CV b 48) h (t+1)=turn V (FY.getD t 0) ((CV b 48).getD t 0) by show turn (rounds (CV b 48) h t) _ _=_;rw[Py]);have c0:=hv 0 (by omega);have c1:=hv 1 (by omega);have c2:=hv 2 (by omega);have c3:=hv 3 (by omega);have c4:=hv 4 (by omega);have c5:=hv 5 (by omega);have c6:=hv 6 (by omega);have c7:=hv 7 (by omega);have ck:=(P6.below Ad) t (by show t < 64;exact hlt);have cw:=(Rj.below Ad) t (by rw[ak];omega);unfold turn t1 t2 at hRt;obtain⟨x0,RI⟩:=ex (V.getD 0 0);obtain⟨x1,Ee⟩:=ex (V.getD 1 0);obtain⟨x2,Ea⟩:=ex (V.getD 2 0);obtain⟨x3,ZF⟩:=ex (V.getD 3 0);obtain⟨x4,hx4⟩:=ex (V.getD 4 0);obtain⟨x5,Tx⟩:=ex (V.getD 5 0);obtain⟨x6,OH⟩:=ex (V.getD 6 0);obtain⟨x7,UF⟩:=ex (V.getD 7 0);obtain⟨xk,kH⟩:=ex (FY.getD t 0);obtain⟨xw,XT⟩:=ex ((CV b 48).getD t 0);rw[RI,Ee,Ea,ZF,hx4,Tx,OH,UF,kH,XT] at hRt;rw[RI] at c0;rw[Ee] at c1;rw[Ea] at c2;rw[ZF] at c3;rw[hx4] at c4;rw[Tx] at c5;rw[OH] at c6;rw[UF] at c7;rw[kH] at ck;rw[XT] at cw;have i0:=fun W=>LH (g:=gv) (cap:=cv') 8 0 (by omega) W
   have i1:=fun W=>LH (g:=gv) (cap:=cv') 8 1 (by omega) W
   have i2:=fun W=>LH (g:=gv) (cap:=cv') 8 2 (by omega) W
   have i3:=fun W=>LH (g:=gv) (cap:=cv') 8 3 (by omega) W
   have i4:=fun W=>LH (g:=gv) (cap:=cv') 8 4 (by omega) W
   have i5:=fun W=>LH (g:=gv) (cap:=cv') 8 5 (by omega) W
   have i6:=fun W=>LH (g:=gv) (cap:=cv') 8 6 (by omega) W
   have i7:=fun W=>LH (g:=gv) (cap:=cv') 8 7 (by omega) W
   have ik:=fun W=>LH (g:=gk) (cap:=yK) 64 t hlt W
   have iw:=fun W=>LH (g:=gw) (cap:=64) 64 t hlt W
   have hti:(t:Int) < 64:=(by omega);clear hv Py RI Ee Ea ZF hx4 Tx OH UF kH XT hl HV Mg;go_wp2
   go_region_held3 (fun V=>V.cell? ⟨gv,4,none⟩=some (.int .u32 x4)) (go_keep)
    (first|(go_at_call 283;refine(uy x4 _ (by decide) (by decide) _).mono ?_;rintro e wA ⟨rfl,rfl⟩))
   go_wp2
   go_region_held3 (fun V=>V.cell? ⟨gv,0,none⟩=some (.int .u32 x0)) (go_keep)
    (first|(go_at_call 283;refine(uy x0 _ (by decide) (by decide) _).mono ?_;rintro e wA ⟨rfl,rfl⟩))
   go_wp2
   go_region_held3 (fun V=>V.cell? ⟨gv,4,none⟩=some (.int .u32 x4)∧V.cell? ⟨gv,5,none⟩=some (.int .u32 x5)∧V.cell? ⟨gv,6,none⟩=some (.int .u32 x6)∧V.cell? ⟨gv,7,none⟩=some (.int .u32 x7)∧V.cell? ⟨gk,t,none⟩=some (.int .u32 xk)∧V.cell? ⟨gw,t,none⟩=some (.int .u32 xw)) (go_keep) (fail)
   simp only[wrap32,show(if IntKind.u32.signed=true then(-1:Int) else IntKind.u32.max)=IntKind.u32.max from rfl];obtain⟨T1,bP⟩:=ex (((((x7+bits .xor .u32 (bits .xor .u32 (Ip x4 6) (Ip x4 11)) (Ip x4 25)) % 4294967296+bits .xor .u32 (bits .and .u32 x4 x5) (bits .and .u32 (bits .xor .u32 IntKind.u32.max x4) x6)) % 4294967296+xk) % 4294967296+xw) % 4294967296);rw[bP];have Jg:=Hi bP;clear bP c7 ck cw ik iw i7;go_wp2
   go_region_held3 (fun V=>V.cell? ⟨gv,0,none⟩=some (.int .u32 x0)∧V.cell? ⟨gv,1,none⟩=some (.int .u32 x1)∧V.cell? ⟨gv,2,none⟩=some (.int .u32 x2)) (go_keep) (fail)
   simp only[wrap32];obtain⟨T2,VD⟩:=ex ((bits .xor .u32 (bits .xor .u32 (Ip x0 2) (Ip x0 13)) (Ip x0 22)+bits .xor .u32 (bits .xor .u32 (bits .and .u32 x0 x1) (bits .and .u32 x0 x2)) (bits .and .u32 x1 x2)) % 4294967296);rw[VD];have GM:=Hi VD;clear VD;go_wp2
   go_region_held3 (fun V=>V.cell? ⟨gv,0,none⟩=some (.int .u32 x0)∧V.cell? ⟨gv,1,none⟩=some (.int .u32 x1)∧V.cell? ⟨gv,2,none⟩=some (.int .u32 x2)∧V.cell? ⟨gv,3,none⟩=some (.int .u32 x3)∧V.cell? ⟨gv,4,none⟩=some (.int .u32 x4)∧V.cell? ⟨gv,5,none⟩=some (.int .u32 x5)∧V.cell? ⟨gv,6,none⟩=some (.int .u32 x6)) (go_keep) (fail)
   simp only[wrap32];have hrt:=hRt.out;rw[aA9,Jg.out,GM.out] at hrt;have HRT:=Hi hrt;clear hrt c0 c1 c2 c3 c4 c5 c6 i0 i1 i2 i3 i4 i5 i6;go_wp2;go_roundw
   case rel=>
    refine⟨t+1,wr.heap.size,8,by omega,by go_num,rfl,?_,?_⟩
    ·rw[HRT.out];refine uW (t:=281) ?_;rw[←fA];exact AP wr _
    ·exact(((((HB.alloc HB.size _).drew).drew).drew).drew).drew
   case measure=>simp[intOf];omega
  ·obtain rfl:t=64:=(by omega);clear hv Ad;have hVl:=Mg 64;obtain⟨V,Py⟩:=ex (rounds (CV b 48) h 64);rw[Py] at HV hVl;have HVE:=Hi Py;clear Py Mg;have hH:=Yp.below HB.out;have HHR:=Hi hH;have HHB:=Hi HB.out;clear hH;go_wp2_with fail;obtain⟨R,hR⟩:=ex (wr.heap.size);have hRL:w2.heap.size≤R:=(by rw[←hR];exact HB.size);have HKH:=Hi (fun(W:World) (hW:Below R wr W)=>(show ML W gh h∧ML W gv V from by rw[←hR] at hW;exact⟨HHR.below hW,HV.below hW⟩))
   go_loopw [14,15] (fun o i wo=>∃ (k:Nat),k≤8∧i=.int .i64 (k:Int)∧wo.ownsRow R 281 1 o k (QW ((sumTo h V 8).take k))∧Bw w2 wo∧Below R wr wo∧R≤wo.heap.size)
    (fun _ i _=>8 -(intOf i).toNat)
   case atStart=>exact⟨0,by omega,rfl,E5 _ _ _ _,HB,Ah _ _,by omega⟩
   case round=>
    obtain⟨k,hk,rfl,hown,VK,qE,hRs⟩:=hrel;obtain⟨oq,Ha,rfl⟩:=Bp hown;have HO:=Hi hown;have gu:=Hi VK;have R8:=Hi qE;by_cases hlt:k < 8
    ·have ch:=(HKH _ qE).1 k (by omega);have cv:=(HKH _ qE).2 k (by omega);have ih:=fun W=>LH (g:=gh) (cap:=ch') 8 k hlt W
     have iv:=fun W=>LH (g:=gv) (cap:=cv') 8 k hlt W
     obtain⟨xh,hxh⟩:=ex (h.getD k 0);obtain⟨xv,W9⟩:=ex (V.getD k 0);rw[hxh] at ch;rw[W9] at cv;have HX:=Hi (Cr hxh W9);have qY:(k:Int) < 8:=(by omega);have hso:=VK.size;clear hown VK qE hxh W9;go_wp2_with fail
     go_region_law
      ((refine step_append_lies _ (by rfl) _ _ _ (by rfl) R 281 i0 _ 1 4 underlying314 Bg AX AY Ba (by rfl) (by omega) (.slice oq k Ha) k (QW ((sumTo h V 8).take k)) (by rfl) ((HO.alloc _).drew) ⟨wr.heap.size,0,none⟩ 1 1 [.int .u32 (IntKind.u32.wrap (xh+xv))] (by rfl) (by rfl) (World.news_of_block (cs:=#[.int .u32 (IntKind.u32.wrap (xh+xv))]) (t:=281) (fr:=(0,0)) (AP wr _)) (by intro u hu;simp at hu;subst hu;rfl) (by omega) (by unfold maxLen;omega) (by omega) (by rw[show((wr.alloc _).drew).heap.size=wr.heap.size+1 from Ar _ _];omega) (wr.heap.size+1) (by simp) ?_;intro gg og w3 RG AJ hat aiL))
     all_goals
      have WR:=Hi ((((gu.alloc gu.size (.cells #[.int .u32 (IntKind.u32.wrap (xh+xv))] 281)).drew)).grown AJ (Ay hRL (Ay hRs (Nat.le_of_lt (by rw[show((wr.alloc (.cells #[.int .u32 (IntKind.u32.wrap (xh+xv))] 281)).drew).heap.size=wr.heap.size+1 from Ar _ _];omega)))) (fun j hj=>Ay hRL (lC HO hj)));have MG:=Hi ((((R8.alloc hRs (.cells #[.int .u32 (IntKind.u32.wrap (xh+xv))] 281)).drew)).grown AJ (Ay hRs (Nat.le_of_lt (by rw[show((wr.alloc (.cells #[.int .u32 (IntKind.u32.wrap (xh+xv))] 281)).drew).heap.size=wr.heap.size+1 from Ar _ _];omega))) (fun j hj=>lC HO hj));have Ob:=Hi RG;have QH:=AJ.size;rw[show((wr.alloc (.cells #[.int .u32 (IntKind.u32.wrap (xh+xv))] 281)).drew).heap.size=wr.heap.size+1 from Ar _ _] at QH;clear RG AJ hat ch cv;go_wp2;go_roundw
      case rel=>
       repeat apply Exists.intro
       refine⟨?ayE,rfl⟩
       case ayE=>
        refine⟨k+1,by omega,by go_num,?_,WR,MG,by omega⟩;rw[aA6 h V k hlt,HX.1,HX.2,show QW ((sumTo h V 8).take k++[(xh+xv) % 4294967296])=QW ((sumTo h V 8).take k)++[.int .u32 ((xh+xv) % 4294967296)] by unfold QW;rw[D6];rfl,←wrap32];exact Ob.out
      case measure=>first|(simp[intOf];done)|(simp[intOf];omega)
    ·obtain rfl:k=8:=(by omega);go_wp2;go_ret;obtain⟨gq,agQ,e1,hbq,_⟩:∃ gq agQ,(Value.slice oq 8 Ha)=.slice (some ⟨gq,0,none⟩) 8 agQ∧R≤gq∧True:=by
      rcases hown.2 with⟨e0,e1⟩|⟨g,cap,cur,e0,hb,_⟩
      ·cases e1
      ·exact⟨g,cap,e0,hb,trivial⟩
     injection e1 with e1 _ e2
     subst e1 e2;refine⟨gq,Ha,rfl,by have:=fU.size;omega,?_,fU.trans (VK.mono fU.size)⟩;have e3:(sumTo h V 8).take 8=Pp h b:=by
      rw[I7 (by rw[lL];exact Ae 8),←HVE.out];rfl
     rw[e3] at hown;exact anP hown
end
namespace BD
open Go.RowKit
theorem ag6(h:List Int)(a b:List UInt8)(m:Nat)(ha:a.length=64*m):∀ k,feed h (a++b) (m+k)=feed (feed h a m) b k:=by
 have h0:∀ j,j≤m→feed h (a++b) j=feed h a j:=by
  intro j
  induction j with
  |zero=>intro _;rfl
  |succ j ih=>
   intro hj
   show Pp (feed h (a++b) j) (((a++b).drop (64*j)).take 64)=Pp (feed h a j) ((a.drop (64*j)).take 64)
   rw[ih (by omega),List.drop_append_of_le_length (by omega),List.take_append_of_le_length (by rw[Cs];omega)]
 intro k
 induction k with
 |zero=>exact h0 m (Ae _)
 |succ k ih=>
  show Pp (feed h (a++b) (m+k)) (((a++b).drop (64*(m+k))).take 64)=Pp (feed (feed h a m) b k) ((b.drop (64*k)).take 64)
  rw[ih,show 64*(m+k)=a.length+64*k by rw[ha];omega,List.drop_append]
  congr 2
  rw[List.drop_of_length_le (by omega),Ev,show a.length+64*k -a.length=64*k by omega]
def PV(s:List UInt8):List UInt8:=(s++[128])++List.replicate (zf (s.length+1)) 0++KJ (8*s.length) 8
theorem acb(s:List UInt8):PV s=s.take (64*(s.length / 64))++LA (leftOf s) s.length:=by
 have e:zf ((leftOf s).length+1)=zf (s.length+1):=by
  unfold leftOf zf;rw[Cs];omega
 unfold PV LA;rw[e];unfold leftOf;simp only[←Dy];rw[Mw]
theorem af6(v j:Nat):(KJ v j).length=j:=by unfold KJ;simp
theorem alb(s:List UInt8):(PV s).length=s.length+1+zf (s.length+1)+8:=by
 unfold PV;simp[af6];omega
theorem axK(s:List UInt8):∃ k,(PV s).length=64*k∧feed Ma (PV s) k=Ue (Ue Ma s) (LA (leftOf s) s.length):=by
 have hl:=alb s;have hz:=adu (s.length+1);obtain⟨k,hk⟩:∃ k,(PV s).length=64*k:=⟨(PV s).length / 64,by rw[hl];omega⟩;have ht:(s.take (64*(s.length / 64))).length=64*(s.length / 64):=by rw[Be];omega
 have hp:(LA (leftOf s) s.length).length=64*(k -s.length / 64):=by
  have:=congrArg List.length (acb s);rw[Az,ht,hk] at this;omega
 have hm:s.length / 64≤k:=by
  have:=congrArg List.length (acb s);rw[Az,ht,hk] at this;omega
 refine⟨k,hk,?_⟩;have h1:=ag6 Ma (s.take (64*(s.length / 64))) (LA (leftOf s) s.length) (s.length / 64) ht (k -s.length / 64);rw[←acb,show s.length / 64+(k -s.length / 64)=k by omega] at h1;rw[h1];unfold Ue;rw[hp,Nat.mul_div_cancel_left _ (by decide)]
 congr 1
 have h2:=ag6 Ma (s.take (64*(s.length / 64))) (s.drop (64*(s.length / 64))) (s.length / 64) ht 0;rw[Mw] at h2;exact h2.symm
theorem aA4(s:List UInt8)(k:Nat)(h:feed Ma (PV s) k=Ue (Ue Ma s) (LA (leftOf s) s.length)):PU (feed Ma (PV s) k) 8=EO s:=by
 rw[h];rfl
theorem arD(h:List Int)(s:List UInt8)(hh:h.length=8):∀ k,(feed h s k).length=8
 |0=>hh
 |_+1=>apZ _ _
end BD
section
open Go.RowKit Go.Maps
open BD
theorem aAr(w:World):
  Calls prog 239 #[] w fun e w'=>∃ g gh,e=.returned (.tuple #[.slice (some ⟨g,0,none⟩) 64 64,.slice (some ⟨gh,0,none⟩) 8 8])∧ML w' g FY∧ML w' gh Ma∧Bw w w':=by
 have HC:=Hi ak3
 go_in
 go_wp2_with fail;rw[HC.out];go_ret2;refine⟨w.heap.size,w.heap.size+1,rfl,(uW (t:=281) (AP _ _)).below ((Ah _ _).alloc (Ae _) _),uW (t:=281) ?_,((Ah _ _).alloc (Ae _) _).alloc ((Ah _ _).alloc (Ae _) (.cells (Bn FY) 281)).size _⟩;rw[fA];have h:=AP (w.alloc (.cells (Bn FY) 281)) (.cells (Bn Ma) 281);rw[Ar] at h;exact h
def apv(l:List UInt8)(m:Nat)(v:Value):Prop:=∃ j,j≤m∧v=.string (bs (l++List.replicate j 0))
def acP(v:Value):Nat:=match v with| .string s=>s.size|_=>0
theorem ayT(s:List UInt8)(w:World)(hs:s.length≤100000000):
  Calls prog 274 #[.string (bs s)] w fun e w'=>e=.returned (.string (bs (PV s)))∧Bw w w':=by
 have Ji:({ data:=#[128] }:ByteArray)=bs [128]:=rfl;have UE:IntKind.u64.wrap ((s.length:Int)*8)=(s.length:Int)*8:=IntWalk.u64_in _ (by omega);have RH:IntKind.u64.wrap (s.length:Int)=(s.length:Int):=IntWalk.u64_in _ (by omega)
 go_in
 go_wp2_with fail;obtain⟨l,hl⟩:=ex (s++[128]);have FN:l.length=s.length+1:=by rw[←hl];simp
 obtain⟨m,hm⟩:=ex (zf (s.length+1));have hme:∀ j,j < m→(l.length+j) % 64≠56:=fun j hj=>by rw[FN];exact ao1 _ _ (by omega)
 have hmz:(l.length+m) % 64=56:=by rw[FN,←hm];exact adu _
 have Zo:m < 64:=by rw[←hm];exact adv _
 have HME:=Hi hme;have HMZ:=Hi hmz;have HP:=Hi (show PV s=(l++List.replicate m 0)++KJ (8*s.length) 8 by unfold PV;rw[hl,hm]);have Nt:=Hi FN;rw[hl];clear hme hmz hl hm FN Ji UE RH
 go_loop [0] (fun v=>apv l m v) (fun v=>l.length+m -acP v)
 case atStart=>exact⟨0,AZ _,by simp⟩
 case round=>
  obtain⟨j,hj,rfl⟩:=hrel;have NU:(l++List.replicate j (0:UInt8)).length=l.length+j:=by simp
  have Gn:l++List.replicate j (0:UInt8)++[0]=l++List.replicate (j+1) 0:=by rw[Dy,←List.replicate_succ']
  have Oe:=Hi NU;have Dh:=Hi Gn;have MS:=Nt.out;by_cases hlt:j < m
  ·have hne:=HME j hlt;rw[←NU] at hne;have htb:(l++List.replicate j (0:UInt8)).length≤100000100:=(by rw[NU];omega);clear NU Gn MS;generalize l++List.replicate j (0:UInt8)=t at*;have Ai:((t.length:Int) % 64 == 56)=false:=(by rw[EH];omega);have Ad:((t.length:Int) % 64 != 56)=true:=(by rw[bne_iff_ne];omega);have hz:({ data:=#[0] }:ByteArray)=bs [0]:=rfl;clear hne;go_wp2
   go_round
   case rel=>exact⟨j+1,hlt,by rw[Dh.out]⟩
   case measure=>
    have h1:acP (.string (bs t))=l.length+j:=Oe.out;have h2:acP (.string (bs (t++[0])))=l.length+j+1:=(by show(t++[0]).length=_;rw[Az,Oe.out];rfl);rw[h1,h2];omega
  ·obtain rfl:j=m:=(by omega);have hz:=HMZ.out;rw[←NU] at hz;have htb:(l++List.replicate j (0:UInt8)).length≤100000100:=(by rw[NU];omega);clear NU Gn MS;generalize l++List.replicate j (0:UInt8)=t at*;have Ai:((t.length:Int) % 64 == 56)=true:=(by rw[beq_iff_eq];omega);have Ad:((t.length:Int) % 64 != 56)=false:=(by rw[bne_eq_false_iff_eq];omega);clear hz Dh Oe;go_wp2_with fail;have KE:=Hi (show((s.length:Int)*8)=((8*s.length:Nat):Int) by omega);rw[KE.out];obtain⟨v,hv⟩:=ex (8*s.length);have hvb:v≤800000000:=(by omega);rw[hv] at HP ⊢;clear hv KE
   go_loopw [0,4] (fun a i wr=>∃ k:Nat,k≤8∧i=.int .i64 (7 -(k:Int))∧a=.string (bs (t++KJ v k))∧Bw w wr) (fun _ i _=>(intOf i+1).toNat)
   case atStart=>exact⟨0,by omega,rfl,by rw[show KJ v 0=[] from rfl,En],Ah _ _⟩
   case round=>
    obtain⟨k,hk,rfl,rfl,CY⟩:=hrel;have HB:=Hi CY;by_cases hlt:k < 8
    ·obtain⟨e,he⟩:∃ e:Nat,56 -8*k=e:=⟨_,rfl⟩;obtain⟨q,hq⟩:∃ q:Nat,7 -k=q:=⟨_,rfl⟩;have hqi:7 -(k:Int)=(q:Int):=(by omega);have hei:8*(q:Int)=(e:Int):=(by omega);have ZA:=af7 v k;rw[he] at ZA;have aug:(e:Int)≤56:=(by omega);have Zu:(q:Int)≤7:=(by omega);have hwe:IntKind.u64.wrap (e:Int)=(e:Int):=IntWalk.u64_in _ (by omega);have W9:((UInt8.ofNat (v / 2 ^ e)).toNat:Int)=(v:Int) / 2 ^ e % 256:=by
      rw[Yb,Int.natCast_emod,Int.natCast_ediv,Int.natCast_pow];rfl
     have PE:=acE prog wr 54 5 9 5 underlying54 underlying5 underlying9 ((v:Int) / 2 ^ e % 256) (UInt8.ofNat (v / 2 ^ e)) W9;have Ct:(t++KJ v k).length≤100000200:=(by rw[Az,af6];omega);have Od:=Hi (show t++KJ v k++[UInt8.ofNat (v / 2 ^ e)]=t++KJ v (k+1) by rw[ZA,Dy]);have HQ:=Hi (Cr hq hlt);rw[hqi];clear ZA he hqi hq hlt hk W9 CY;generalize t++KJ v k=u at*;generalize UInt8.ofNat (v / 2 ^ e)=x at*;go_wp2;go_roundw
     case rel=>
      refine⟨k+1,HQ.2,?_,by rw[Od.out],HB.alloc HB.size _⟩;have:=HQ.out
      show Value.int .i64 ((q:Int) -1)=_
      congr 1
      omega
     case measure=>have:=HQ.out;first|(simp[intOf];done)|(simp[intOf];omega)
    ·obtain rfl:k=8:=(by omega);clear hlt hk CY;go_wp2;go_ret;exact⟨by rw[HP.out];rfl,HB⟩
end
section
open Go.RowKit Go.Maps
open BD
theorem aAw:(prog.info? 5).map (fun i=>(i.zero,i.size,i.bytes))=some (some (.int .u8 0),1,1):=by kernel_rfl
theorem anZ(x:Int):IntKind.u8.wrap x=x % 256:=by simp[IntKind.wrap,IntKind.bits,IntKind.signed]
theorem aB5(x:Int):Cc (w4 x)=[.int .u8 (x / 16777216 % 256),.int .u8 (x / 65536 % 256),.int .u8 (x / 256 % 256),.int .u8 (x % 256)]:=by
 have hb:∀ y:Int,((UInt8.ofNat (y % 256).toNat).toNat:Int)=y % 256:=fun y=>by rw[Yb];omega
 unfold w4;simp only[fD,Yd,hb]
theorem yD{w:World}{base g n cap:Nat}{l:List UInt8}(_:l.length=n)(h:w.ownsRow base 5 1 (.slice (some ⟨g,0,none⟩) n cap) n (Cc l))(i:Nat)(hi:i < l.length):w.cell? ⟨g,i,none⟩=some (.int .u8 (l[i].toNat:Int)):=by
 have hc:=h.cells (g:=g) rfl;have:=hc i (.int .u8 (l[i].toNat:Int)) (lS l i hi);rwa[add_plain] at this
theorem az2{w:World}{gh gk:Nat}(s:List UInt8)(hs:s.length≤10000000)(K:ML w gk FY)(H:ML w gh Ma):
  Calls prog 240 #[.string (bs s),.slice (some ⟨gk,0,none⟩) 64 64,.slice (some ⟨gh,0,none⟩) 8 8] w fun e w'=>e=.returned (.string (bs (EO s)))∧Bw w w':=by
 obtain⟨k,hk,hf⟩:=axK s;have xB:=Hi (aA4 s k hf);have di:k≤1000000:=by
  have h1:=alb s;have h2:=adv (s.length+1);omega
 have aek:=Hi (ayT s w (by omega));obtain⟨P,hP⟩:=ex (PV s);rw[hP] at hk xB aek;have HK:=Hi K;have HH:=Hi H;have Qd:=Hi (arD Ma P rfl);obtain⟨i0,Bg,AX,AY,Ba⟩:=DI aAw;clear hf hP K H
 go_in
 go_wp2_with fail;refine aek.mono ?_;rintro e w1⟨rfl,Ai⟩;have HB1:=Hi Ai;have Yt:=Hi (HK.below Ai);have gP:=Hi (HH.below Ai);clear Ai HK HH;go_wp2
 go_loopw [2,7] (fun hv i wr=>∃ (j g c:Nat),j≤k∧i=.int .i64 (64*(j:Int))∧hv=.slice (some ⟨g,0,none⟩) 8 c∧ML wr g (feed Ma P j)∧Bw w1 wr) (fun _ i _=>64*k -(intOf i).toNat)
 case atStart=>exact⟨0,gh,8,by omega,rfl,rfl,gP,Ah _ _⟩
 case round=>
  obtain⟨j,g,c,hj,rfl,rfl,hw,hb⟩:=hrel;have HW:=Hi hw;have HB:=Hi hb;clear hw hb;by_cases hlt:j < k
  ·have hcut:∀ W,(Instr.slice 9 (.string (bs P)) (some (.int .i64 (64*(j:Int)))) (some (.int .i64 (64*(j:Int)+64))) none).run prog W=.ok (.string (bs ((P.drop (64*j)).take 64))) W:=fun W=>by
    have:=Y4 prog W 9 underlying9 P (64*j) (64*j+64) (by omega) (by omega);rw[show((64*j:Nat):Int)=64*(j:Int) by omega,show((64*j+64:Nat):Int)=64*(j:Int)+64 by omega] at this;rw[this,List.drop_take,show 64*j+64 -64*j=64 by omega]
   have Ct:((P.drop (64*j)).take 64).length=64:=(by rw[Be,Cs];omega);have R7:=Hi (ayh (w:=wr) (gh:=g) (gk:=gk) (ch':=c) (yK:=64) ((P.drop (64*j)).take 64) Ct (Qd j) HW (Yt.below HB));have Ym:=Hi (show feed Ma P (j+1)=Pp (feed Ma P j) ((P.drop (64*j)).take 64) from rfl);have hlP:64*(j:Int) < (P.length:Int):=(by omega);clear Ct;generalize (P.drop (64*j)).take 64=X at*;go_wp2_with fail;refine R7.mono ?_;rintro e w2⟨g2,c2,rfl,_,Kh,Ad⟩;have Rj:=Hi Kh;have Ak:=bH HB Ad;clear Kh Ad;go_wp2;go_roundw
   case rel=>exact⟨j+1,g2,c2,by omega,by first|(congr 1;done)|(congr 1;omega),rfl,by rw[Ym.out];exact Rj.out,Ak⟩
   case measure=>first|(simp[intOf];done)|(simp[intOf];omega)
  ·obtain rfl:j=k:=(by omega);have hlP:¬ 64*(j:Int) < (P.length:Int):=(by omega);obtain⟨F,hF⟩:=ex (feed Ma P j);have Xd:F.length=8:=(by rw[←hF];exact Qd j);rw[hF] at HW xB;clear hF;have HA:=bH HB1 HB;go_wp2_with fail;have HFl:=Hi Xd;clear Xd hlP hlt hk;obtain⟨R,hR⟩:=ex (wr.heap.size);have HWW:=Hi (fun(W:World) (hW:Below R wr W)=>(show ML W g F from by rw[←hR] at hW;exact HW.below hW));have Vj:=Hi (fun(W:World) (hW:Below R wr W)=>(show Bw w W from by rw[←hR] at hW;exact HA.trans (hW.mono HA.size)))
   go_loopw [8,9] (fun o i wo=>∃ (t n:Nat),t≤8∧n=4*t∧i=.int .i64 (t:Int)∧wo.ownsRow R 5 1 o n (Cc (PU F t))∧Below R wr wo∧R≤wo.heap.size) (fun _ i _=>8 -(intOf i).toNat)
   case atStart=>exact⟨0,0,by omega,rfl,rfl,by rw[show PU F 0=[] from rfl,Yd];exact E5 _ _ _ _,Ah _ _,by omega⟩
   case round=>
    obtain⟨t,n,ht,hn,rfl,hown,VK,hso⟩:=hrel;obtain⟨oq,Ha,rfl⟩:=Bp hown;have HO:=Hi hown;have gu:=Hi VK;by_cases hlt:t < 8
    ·have ch:=(HWW _ VK) t (by rw[HFl.out];exact hlt);have ih:=fun W=>LH (g:=g) (cap:=c) 8 t hlt W
     have Qg:=Hi (al9 F t);obtain⟨x,hx⟩:=ex (F.getD t 0);rw[hx] at ch Qg;have hti:(t:Int) < 8:=(by omega);have HN:=Hi (Cr hn hlt);have JH:n≤32:=(by omega);clear hown VK hx hn hlt ht;go_wp2_with fail
     go_region_law
      ((refine step_append_lies _ (by rfl) _ _ _ (by rfl) R 5 i0 _ 1 1 underlying54 Bg AX AY Ba (by rfl) (by omega) (.slice oq n Ha) n (Cc (PU F t)) (by rfl) ((HO.alloc _).drew) ⟨wr.heap.size,0,none⟩ 4 4 [.int .u8 (IntKind.u8.wrap (x / 16777216)),.int .u8 (IntKind.u8.wrap (x / 65536)),.int .u8 (IntKind.u8.wrap (x / 256)),.int .u8 (IntKind.u8.wrap x)] (by rfl) (by rfl) (World.news_of_block (cs:=#[.int .u8 (IntKind.u8.wrap (x / 16777216)),.int .u8 (IntKind.u8.wrap (x / 65536)),.int .u8 (IntKind.u8.wrap (x / 256)),.int .u8 (IntKind.u8.wrap x)]) (t:=5) (fr:=(0,0)) (AP wr _)) (by intro u hu;simp at hu;rcases hu with rfl|rfl|rfl|rfl<;>rfl) (by omega) (by unfold maxLen;omega) (by omega) (by rw[show((wr.alloc _).drew).heap.size=wr.heap.size+1 from Ar _ _];omega) (wr.heap.size+1) (by simp) ?_;intro gg og w3 RG AJ hat aiL))
     all_goals
      have WR:=Hi ((((gu.alloc hso (.cells #[.int .u8 (IntKind.u8.wrap (x / 16777216)),.int .u8 (IntKind.u8.wrap (x / 65536)),.int .u8 (IntKind.u8.wrap (x / 256)),.int .u8 (IntKind.u8.wrap x)] 5)).drew)).grown AJ (Ay hso (Nat.le_of_lt (by rw[show((wr.alloc (.cells #[.int .u8 (IntKind.u8.wrap (x / 16777216)),.int .u8 (IntKind.u8.wrap (x / 65536)),.int .u8 (IntKind.u8.wrap (x / 256)),.int .u8 (IntKind.u8.wrap x)] 5)).drew).heap.size=wr.heap.size+1 from Ar _ _];omega))) (fun j hj=>lC HO hj));have Ob:=Hi RG;have Jy:=Hi (show R≤w3.heap.size from by have:=AJ.size;rw[show((wr.alloc (.cells #[.int .u8 (IntKind.u8.wrap (x / 16777216)),.int .u8 (IntKind.u8.wrap (x / 65536)),.int .u8 (IntKind.u8.wrap (x / 256)),.int .u8 (IntKind.u8.wrap x)] 5)).drew).heap.size=wr.heap.size+1 from Ar _ _] at this;omega);clear RG AJ hat ch;go_wp2;go_roundw
      case rel=>
       refine⟨t+1,n+4,HN.2,by have:=HN.1;omega,by go_num,?_,WR,Jy⟩;rw[Qg.out,Yc,aB5];simp only[←anZ];exact Ob.out
      case measure=>have:=HN.2;first|(simp[intOf];done)|(simp[intOf];omega)
    ·obtain rfl:t=8:=(by omega);have auY:n=32:=(by omega);subst auY;obtain⟨gq,e1⟩:∃ gq,oq=some ⟨gq,0,none⟩:=by
      rcases hown.2 with⟨e0,e1⟩|⟨g,cap,cur,e0,hb,_⟩
      ·cases e1
      ·injection e0 with e0;exact⟨g,e0⟩
     subst e1;have QD:(PU F 8).length=32:=aca F 8;have PE:=Y3 prog wr 54 5 9 underlying54 underlying5 underlying9 gq 0 32 Ha (PU F 8) QD (fun i hi=>by rw[GJ];exact yD QD hown i hi);rw[xB.out] at PE;clear hown VK QD;go_wp2;go_ret;exact⟨rfl,Vj _ gu⟩
theorem amq(s:List UInt8)(hs:s.length≤10000000)(w:World):
  Calls prog 183 #[.string (bs s)] w fun e w'=>e=.returned (.string (bs (EO s)))∧Bw w w':=by
 go_in
 go_wp2_with fail;refine(aAr _).mono ?_;rintro e w1⟨g,gh,rfl,hk,hh,hb⟩;have HK:=Hi hk;have HH:=Hi hh;have HB:=Hi hb;clear hk hh hb;go_wp2_with fail;refine(az2 s hs HK HH).mono ?_;rintro e w2⟨rfl,Ad⟩;have Ak:=bH HB Ad;clear Ad;go_wp2;go_ret;exact⟨rfl,Ak⟩
end
namespace Ap
open Go.RowKit Go.Maps Aq Af
attribute [local go_sem] O4
def apH(ats:Array TypeId)(ty:TypeId)(args:Array Value):Sem Value:=Builtin.append_ ats ty args
theorem apL(ats:Array TypeId)(ty:TypeId)(args:Array Value):Builtin.append_ ats ty args=apH ats ty args:=rfl
attribute [local go_sem ↓] apL
def XZ(Q:Exit→Act→World→Prop):Exit→Act→World→Prop
 | .panic _,_,_=>False
 |e,a,w=>Q e a w
theorem aj{P:Program}{c:Code}{Q:Exit→Act→World→Prop}{a:Act}{w:World}(h:c.wp P (XZ Q) a w):c.wp P Q a w:=
 Code.wp_mono (fun e a w h=>by cases e<;>first|exact h|exact h.elim) h
section
variable {w:World}{b y n N:Nat}{bl:Nat→Prop}{A:M}
end
end Ap
namespace Ap
open Aq Af
end Ap
namespace Ap
open Aq Af
end Ap
namespace Ap
open Aq Af
end Ap
namespace Ap
open Aq Af
