/- '[]api.Change', as it came in; maslinlaw06.long, walked. maslinlaw06.long, walked. Several files at once, each on a disk of its own, beside other blocks. -/
import Derived.Test.YtcljpnkknehlmaaGreatTrod
import Derived.Test.YtcljpnkknehlmaaGreatFilAlive
import Derived.Deep.Fields
import Derived.ChangeArms
import Derived.BigQuiet
namespace Go.Proofs.YtcljpnkknehlmaaGreat
open Go.RowKit Go.WideShapes Go.ChangeShapes Go.Deep
open Fil

set_option maxRecDepth 100000 in
theorem chg_of_trod {H : Type} {enc : TypeId × Value → H} {W : World} {base : Nat} {sp : Nat → Bool} {hd : Bool} {n : Nat} {cs : List Value} {y : DataW H × List MemPlace} (q : Addr)
    (hc : W.cells? base q 3 = some cs) (h : DataW.trod enc Tryz.prog W base sp hd n 35 cs = some y) (hz : ∀ n ∈ DataW.weights Tryz.prog 35 y.1, n ≤ reachBytes) :
    ∃ x : Chg, ChgAt W q x ∧ x.name.length ≤ reachBytes ∧ x.data.length ≤ reachBytes := by
  obtain ⟨_, hl, hat⟩ := World.cells?_some hc
  obtain ⟨xs, n', _, rfl, _, hxl, hf⟩ := DataW.trod_struct Tryz.underlying35 h
  have o2 : Tryz.prog.cellsOf 9 = 1 := by kernel_rfl
  have o3 : Tryz.prog.cellsOf 4 = 1 := by kernel_rfl
  have hxl5 : xs.length = 3 := hxl
  have g0 : DataW.trod enc Tryz.prog W base sp hd n' 9 ((cs.drop 0).take (Tryz.prog.cellsOf 9)) = xs[0]? := hf 0 _ rfl
  have g1 : DataW.trod enc Tryz.prog W base sp hd n' 9 ((cs.drop 1).take (Tryz.prog.cellsOf 9)) = xs[1]? := hf 1 _ rfl
  have g2 : DataW.trod enc Tryz.prog W base sp hd n' 4 ((cs.drop 2).take (Tryz.prog.cellsOf 4)) = xs[2]? := hf 2 _ rfl
  rw [o2, one_at hl _ (by omega), List.getElem?_eq_getElem (by omega)] at g0 g1
  rw [o3, one_at hl _ (by omega), List.getElem?_eq_getElem (by omega)] at g2
  obtain ⟨v0, e0, y0, _⟩ := DataW.trod_string Tryz.underlying9 g0
  obtain ⟨v1, e1, y1, _⟩ := DataW.trod_string Tryz.underlying9 g1
  obtain ⟨v2, e2, _⟩ := DataW.trod_bool Tryz.underlying4 g2
  have cell : ∀ j (hj : j < 3) v, [cs[j]'(by omega)] = [v] → W.cell? (q.add j) = some v := fun j hj v e => by
    rw [hat j hj, List.getElem?_eq_getElem (by omega)]
    simpa using e
  refine ⟨⟨v0.data.toList, v1.data.toList, v2⟩, ⟨cell 0 (by omega) _ e0, cell 1 (by omega) _ e1, cell 2 (by omega) _ e2⟩, ?_, ?_⟩
  · refine hz _ ?_
    simp only [DataW.weights, Tryz.underlying35]
    refine DataW.weights_mem_each (j := 0) (t := 9) (d := .lit (.string v0.data.toList)) rfl ?_ _ (by simp [DataW.weights])
    rw [List.getElem?_map, List.getElem?_eq_getElem (by omega), y0]
    rfl
  · refine hz _ ?_
    simp only [DataW.weights, Tryz.underlying35]
    refine DataW.weights_mem_each (j := 1) (t := 9) (d := .lit (.string v1.data.toList)) rfl ?_ _ (by simp [DataW.weights])
    rw [List.getElem?_map, List.getElem?_eq_getElem (by omega), y1]
    rfl
set_option maxRecDepth 100000 in
theorem chgs_of_trod {H : Type} {enc : TypeId × Value → H} {W : World} {base : Nat} {v : Value} {d : DataW H} {p : List MemPlace}
    (ho : Value.okWide Tryz.prog W .any base 22 v) (h : DataW.Trod enc Tryz.prog W 0 (fun _ => true) true 22 v d p) (hz : ∀ n ∈ DataW.weights Tryz.prog 22 d, (decide (n ≤ reachBytes)) = true) :
    ∃ (a : Option Addr) (cap : Nat) (l : List Chg), v = .slice a l.length cap ∧ ChgsAt W a l ∧ l.length ≤ cap ∧ cap ≤ maxLen ∧ ∀ x ∈ l, x.name.length ≤ reachBytes ∧ x.data.length ≤ reachBytes := by
  obtain ⟨a0, len, cap, rfl⟩ := okWide_slice Tryz.underlying22 ho
  obtain ⟨fuel, hf⟩ := h
  rcases Go.Deep.open_slice Tryz.underlying22 hf with ⟨hcs, _⟩ | ⟨a, len', cap', m, n, D, Pl, hcs, _, hl, hm, hmm, hx, hi⟩
  · simp [Value.cells] at hcs
    obtain ⟨rfl, rfl, rfl⟩ := hcs
    exact ⟨none, 0, [], rfl, fun i hi => by simp at hi, by simp, by unfold maxLen; omega, by simp⟩
  · simp [Value.cells] at hcs
    obtain ⟨rfl, rfl, rfl⟩ := hcs
    have hC : Tryz.prog.cellsOf 35 = 3 := by kernel_rfl
    simp only [if_true] at hmm
    subst hmm
    rw [hC] at hi
    simp only [Prod.mk.injEq] at hx
    obtain ⟨rfl, _⟩ := hx
    obtain ⟨l, hll, hP⟩ := list_of (P := fun i x => ChgAt W (a.add (i * 3)) x ∧ x.name.length ≤ reachBytes ∧ x.data.length ≤ reachBytes) len (fun i hil => by
      obtain ⟨cs', h1, h2⟩ := hi i (by omega)
      exact chg_of_trod _ h1 h2 (fun k hk => of_decide_eq_true (hz k (by
        simp only [DataW.weights, Tryz.underlying22]
        exact List.mem_cons_of_mem _ (List.mem_append_left _ (weights_all (List.mem_map.2 ⟨i, List.mem_range.2 hil, rfl⟩) hk))))))
    refine ⟨some a, m, l, by rw [hll], fun i hil => ⟨a, rfl, (hP i hil).1⟩, by omega, hm, fun x hxm => ?_⟩
    obtain ⟨i, hil, rfl⟩ := List.getElem_of_mem hxm
    exact (hP i hil).2
end Go.Proofs.YtcljpnkknehlmaaGreat

namespace Go.Proofs.YtcljpnkknehlmaaGreat
open Go.RowKit Go.Maps
open Fil

/-- How many bytes the first changes have. -/
def sumC (l : List Chg) : Nat := (l.map fun c => c.name.length + c.data.length).sum
def longV (l : List Chg) : Bool := decide (60 < l.length) || decide (131072 < sumC (l.take 200))
theorem sumC_step (l : List Chg) (k : Nat) (h : k < l.length) : sumC (l.take (k + 1)) = sumC (l.take k) + l[k].name.length + l[k].data.length := by
  unfold sumC
  rw [List.take_succ_eq_append_getElem h, List.map_append, List.sum_append]
  simp; omega
theorem sumC_le (l : List Chg) (b : Nat) (h : ∀ c ∈ l, c.name.length ≤ b ∧ c.data.length ≤ b) : sumC l ≤ l.length * (2 * b) := by
  unfold sumC
  induction l with
  | nil => simp
  | cons c l ih =>
    have h1 := ih (fun x hx => h x (List.mem_cons_of_mem _ hx))
    have h2 := h c List.mem_cons_self
    rw [List.map_cons, List.sum_cons, List.length_cons, Nat.succ_mul]
    omega
theorem long_weigh {l : List Chg} (h : longV l = false) : l.length ≤ 60 ∧ weigh l ≤ 140000 := by
  unfold longV at h
  simp only [Bool.or_eq_false_iff, decide_eq_false_iff_not] at h
  obtain ⟨h1, h2⟩ := h
  rw [List.take_of_length_le (by omega)] at h2
  have h3 : weigh l = 8 * l.length + sumC l := by
    clear h1 h2
    unfold weigh sumC
    induction l with
    | nil => rfl
    | cons c l ih => rw [List.map_cons, List.sum_cons, List.map_cons, List.sum_cons, List.length_cons, ih]; omega
  exact ⟨by omega, by omega⟩
set_option maxRecDepth 100000 in
set_option maxHeartbeats 2000000 in
theorem long6_any {w : World} {a : Option Addr} {cap : Nat} {l : List Chg} (hL : ChgsAt w a l) (hlen : l.length ≤ maxLen) (hok : ∀ c ∈ l, c.name.length ≤ reachBytes ∧ c.data.length ≤ reachBytes) :
    Calls Tryz.prog 5 #[.slice a l.length cap] w fun e w' => e = .returned (.bool (longV l)) ∧ Below w.heap.size w w' := by
  have HL := Lib.hid hL; have HOK := Lib.hid hok
  have hml : l.length ≤ 9223372036854775807 := by unfold maxLen at hlen; omega
  clear hL hok hlen
  go_enter Tryz.func5, Tryz.ntmps5
  go_wp2_with fail
  go_loopw [3, 4] (fun n i wr => ∃ k : Nat, k ≤ l.length ∧ k ≤ 200 ∧ i = .int .i64 k ∧ n = .int .i64 (sumC (l.take k)) ∧ Below w.heap.size w wr) (fun _ i _ => 200 - (intOf i).toNat)
  case atStart => exact ⟨0, Nat.zero_le _, by omega, rfl, by rw [List.take_zero]; rfl, Below.refl _ _⟩
  case round =>
    obtain ⟨k, hk, hk2, rfl, rfl, hb⟩ := hrel
    have HB := Lib.hid hb
    have hsum : sumC (l.take k) ≤ 200 * (2 * reachBytes) := by
      refine Nat.le_trans (sumC_le _ reachBytes (fun c hc => HOK.out c (List.mem_of_mem_take hc))) (Nat.mul_le_mul_right _ ?_)
      rw [List.length_take]; omega
    unfold reachBytes at hsum
    by_cases hlt : k < l.length
    · by_cases h200 : k < 200
      · obtain ⟨q, hix, hq, -⟩ := HL.out.index cap k hlt
        have hq2 := hq.below hb
        obtain ⟨c0, c1, c2⟩ := hq2.cells
        have hst := sumC_step l k hlt
        have hin := HOK.out _ (List.getElem_mem hlt)
        unfold reachBytes at hin
        have HST := Lib.hid hst
        clear hst hq hq2 hb
        generalize l[k] = x at *
        generalize sumC (l.take k) = n at *
        go_wp2_with fail
        go_quiet (fail)
        go_wp2_with fail
        go_roundw
        case rel => exact ⟨k + 1, by omega, by omega, by go_num, by rw [HST.out]; go_num, HB.out.trans ((below_drawn _ _).mono HB.out.size)⟩
        case measure => simp [intOf]; omega
      · have hV : Hid (longV l = true) := Lib.hid (by unfold longV; rw [decide_eq_true (show 60 < l.length by omega)]; rfl)
        have h60 : (60 : Int) < (l.length : Int) := by omega
        clear hb
        go_wp2_with fail
        go_ret
        exact ⟨by rw [hV.out]; rfl, HB.out⟩
    · obtain rfl : k = l.length := by omega
      rw [List.take_length] at hsum
      have hV : longV l = (decide (60 < l.length) || decide (131072 < sumC l)) := by
        unfold longV
        by_cases h : 60 < l.length
        · simp [h]
        · rw [List.take_of_length_le (by omega)]
      have HV := Lib.hid hV
      rw [List.take_length]
      clear hb hV
      generalize sumC l = n at *
      by_cases h60 : 60 < l.length
      · have h60' : (60 : Int) < (l.length : Int) := by omega
        rw [decide_eq_true h60, Bool.true_or] at HV
        clear h60
        go_wp2_with fail
        go_ret
        exact ⟨by rw [HV.out]; rfl, HB.out⟩
      · have h60' : ¬ (60 : Int) < (l.length : Int) := by omega
        rw [decide_eq_false h60, Bool.false_or] at HV
        clear h60
        go_wp2_with fail
        go_ret
        have hcast : decide ((131072 : Int) < (n : Int)) = decide (131072 < n) := decide_eq_decide.2 (by omega)
        exact ⟨by rw [HV.out, ← hcast]; rfl, HB.out⟩
end Go.Proofs.YtcljpnkknehlmaaGreat

namespace Go.Proofs.YtcljpnkknehlmaaGreat
open Go.RowKit Go.Maps
open Fil

structure Fl where
  b : Nat
  y : Nat
  N : Nat
  A : M
/-- Files from block B on, their blocks apart, and none of X. -/
def Fils (B : Nat) (w0 w : World) (X : Nat → Prop) (n : Nat) (L : List Fl) : Prop :=
  Below B w0 w ∧ B ≤ w.heap.size ∧ (∀ k, X k → k < w.heap.size) ∧ ∃ bl : Nat → Nat → Prop, (∀ i (h : i < L.length), FSt w L[i].b L[i].y (bl i) n L[i].N L[i].A) ∧ (∀ i, i < L.length → ∀ k, bl i k → B ≤ k ∧ k < w.heap.size ∧ ¬ X k) ∧ (∀ i j, i < L.length → j < L.length → i ≠ j → ∀ k, bl i k → ¬ bl j k)
section
variable {B : Nat} {w0 w w' : World} {X : Nat → Prop} {n : Nat} {L : List Fl}
theorem Fils.none (h1 : Below B w0 w) (h2 : B ≤ w.heap.size) (hX : ∀ k, X k → k < w.heap.size) : Fils B w0 w X n [] :=
  ⟨h1, h2, hX, fun _ _ => False, fun i h => by simp at h, fun i h => by simp at h, fun i j h => by simp at h⟩
/-- What turns none of their blocks, and none that has texts, leaves them. -/
theorem Fils.upd {P : Nat → Prop} (h : Fils B w0 w X n L) (hu : Upd P w w') (hs : ∀ k, BlkOf w k 9 → ¬ P k) (hP : ∀ k, P k → B ≤ k ∧ (X k ∨ w.heap.size ≤ k)) : Fils B w0 w' X n L := by
  obtain ⟨h1, h2, hX, bl, h3, h4, h5⟩ := h
  refine ⟨below_upd h1 hu (fun k hk => (hP k hk).1) h2, Nat.le_trans h2 hu.size, fun k hk => Nat.lt_of_lt_of_le (hX k hk) hu.size, bl, fun i hi => (h3 i hi).upd hu hs (fun k hk f => ?_), fun i hi k hk => ?_, h5⟩
  · obtain ⟨g1, g2, g3⟩ := h4 i hi k hk
    rcases (hP k f).2 with e | e
    · exact g3 e
    · omega
  · obtain ⟨g1, g2, g3⟩ := h4 i hi k hk
    exact ⟨g1, Nat.lt_of_lt_of_le g2 hu.size, g3⟩
theorem Fils.step (h : Fils B w0 w X n L) (hb : Below w.heap.size w w') : Fils B w0 w' X n L :=
  h.upd (Upd.of_below (F := fun _ => False) hb) (fun _ _ f => f) (fun _ f => f.elim)
theorem Fils.more {X' : Nat → Prop} (h : Fils B w0 w X n L) (hb : Below w.heap.size w w') (hX : ∀ k, X' k → X k ∨ (w.heap.size ≤ k ∧ k < w'.heap.size)) : Fils B w0 w' X' n L := by
  obtain ⟨h1, h2, hX0, bl, h3, h4, h5⟩ := h
  refine ⟨h1.trans (hb.mono h2), Nat.le_trans h2 hb.size, fun k hk => (hX k hk).elim (fun e => Nat.lt_of_lt_of_le (hX0 k e) hb.size) (fun e => e.2), bl, fun i hi => (h3 i hi).below hb, fun i hi k hk => ?_, h5⟩
  obtain ⟨g1, g2, g3⟩ := h4 i hi k hk
  refine ⟨g1, Nat.lt_of_lt_of_le g2 hb.size, fun e => ?_⟩
  rcases hX k e with f | f
  · exact g3 f
  · omega
/-- One of them is turned. -/
theorem Fils.turn {bl : Nat → Nat → Prop} {bl' : Nat → Prop} {f : Fl} {i : Nat} (h1 : Below B w0 w) (h2 : B ≤ w.heap.size) (hX : ∀ k, X k → k < w.heap.size) (h3 : ∀ i (h : i < L.length), FSt w L[i].b L[i].y (bl i) n L[i].N L[i].A) (h4 : ∀ i, i < L.length → ∀ k, bl i k → B ≤ k ∧ k < w.heap.size ∧ ¬ X k) (h5 : ∀ i j, i < L.length → j < L.length → i ≠ j → ∀ k, bl i k → ¬ bl j k)
    (hi : i < L.length) (hg : FSt w' f.b f.y bl' n f.N f.A) (hu : Upd (NoS w (bl i)) w w') (hs : ∀ k, bl' k → bl i k ∨ w.heap.size ≤ k) : Fils B w0 w' X n (L.set i f) ∧ Kept X w w' := by
  refine ⟨⟨below_upd h1 hu (fun k hk => (h4 i hi k hk.1).1) h2, Nat.le_trans h2 hu.size, fun k hk => Nat.lt_of_lt_of_le (hX k hk) hu.size, fun j => if j = i then (fun k => bl' k ∧ k < w'.heap.size) else bl j, fun j hj => ?_, fun j hj k hk => ?_, fun j m hj hm hne k hk => ?_⟩, fun k hk => hu.block k (hX k hk) (fun f => (h4 i hi k f.1).2.2 hk)⟩
  · rw [List.length_set] at hj
    dsimp only
    by_cases e : j = i
    · subst e
      rw [if_pos rfl, List.getElem_set_self]
      exact hg.shrink
    · rw [if_neg e, List.getElem_set_ne (fun x => e x.symm)]
      exact (h3 j hj).upd hu (fun k hk f => f.2 hk) (fun k hk f => h5 j i hj hi e k hk f.1)
  · rw [List.length_set] at hj
    by_cases e : j = i
    · subst e
      rw [if_pos rfl] at hk
      rcases hs k hk.1 with f | f
      · obtain ⟨g1, g2, g3⟩ := h4 j hj k f
        exact ⟨g1, hk.2, g3⟩
      · exact ⟨Nat.le_trans h2 f, hk.2, fun g => by have := hX k g; omega⟩
    · rw [if_neg e] at hk
      obtain ⟨g1, g2, g3⟩ := h4 j hj k hk
      exact ⟨g1, Nat.lt_of_lt_of_le g2 hu.size, g3⟩
  · rw [List.length_set] at hj hm
    dsimp only at hk ⊢
    by_cases e : j = i
    · subst e
      rw [if_pos rfl] at hk
      rw [if_neg (fun x => hne x.symm)]
      intro f
      rcases hs k hk.1 with g | g
      · exact h5 j m hj hm hne k g f
      · have := (h4 m hm k f).2.1; omega
    · rw [if_neg e] at hk
      by_cases e2 : m = i
      · subst e2
        rw [if_pos rfl]
        intro f
        rcases hs k f.1 with g | g
        · exact h5 j m hj hm hne k hk g
        · have := (h4 j hj k hk).2.1; omega
      · rw [if_neg e2]
        exact h5 j m hj hm hne k hk
theorem fils_commit {a : Option Addr} {cap : Nat} {l : List Chg} (h : Fils B w0 w X n L) (i : Nat) (hi : i < L.length) (hN : L[i].N < 1000000000) (hL : ChgsAt w a l) (hlen : l.length ≤ 100000) (hw : weigh l ≤ 900000) :
    Calls Tryz.prog 9 #[.pointer (some ⟨L[i].y, 0, Option.none⟩), .slice a l.length cap] w fun e w' => e = .returned (.int .i64 (codeC n L[i].A l)) ∧ Fils B w0 w' X n (L.set i ⟨L[i].b, L[i].y, L[i].N + 1, nextC n L[i].A l⟩) ∧ Kept X w w' := by
  obtain ⟨h1, h2, hX, bl, h3, h4, h5⟩ := h
  refine (fst_commit (h3 i hi) hN hL hlen hw).mono ?_
  rintro e w' ⟨rfl, bl', g1, g2, g3⟩
  exact ⟨rfl, Fils.turn (f := ⟨L[i].b, L[i].y, L[i].N + 1, nextC n L[i].A l⟩) h1 h2 hX h3 h4 h5 hi g1 g2 g3⟩
theorem fils_new {b : Nat} {fp : Nat → Prop} (h : Fils B w0 w X n L) (hb : Below w.heap.size w w') (hd : DiskAt w' b (Dsk.new n) fp) (hf : ∀ k, fp k → w.heap.size ≤ k) (hn : 8 ≤ n) (hn2 : n ≤ 16384) :
    Calls Tryz.prog 8 #[.pointer (some ⟨b, 0, Option.none⟩)] w' fun e w2 => ∃ y, e = .returned (.tuple #[.pointer (some ⟨y, 0, Option.none⟩), .int .i64 0]) ∧ Fils B w0 w2 X n (L ++ [⟨b, y, 0, []⟩]) ∧ Kept X w w2 := by
  refine (fst_new n hn hn2 hd).mono ?_
  rintro e w2 ⟨y, bl', rfl, g1, g2, g3, _⟩
  obtain ⟨h1, h2, hX, bl, h3, h4, h5⟩ := h
  have hbl : ∀ k, bl' k → w.heap.size ≤ k := fun k hk => (g3 k hk).elim (hf k) (fun e => Nat.le_trans hb.size e)
  have hbu : Below w.heap.size w w2 := below_upd hb g2 hf hb.size
  refine ⟨y, rfl, ⟨h1.trans (hbu.mono h2), Nat.le_trans h2 hbu.size, fun k hk => Nat.lt_of_lt_of_le (hX k hk) hbu.size, fun j => if j < L.length then bl j else (fun k => bl' k ∧ k < w2.heap.size), fun j hj => ?_, fun j hj k hk => ?_, fun j m hj hm hne k hk => ?_⟩, fun k hk => hbu.block k (hX k hk)⟩
  · rw [List.length_append, List.length_singleton] at hj
    dsimp only
    by_cases e : j < L.length
    · rw [if_pos e, List.getElem_append_left e]
      exact (h3 j e).below hbu
    · obtain rfl : j = L.length := by omega
      rw [if_neg e]
      simp only [List.getElem_append_right (Nat.le_refl _), Nat.sub_self, List.getElem_cons_zero]
      exact g1.shrink
  · dsimp only at hk
    by_cases e : j < L.length
    · rw [if_pos e] at hk
      obtain ⟨q1, q2, q3⟩ := h4 j e k hk
      exact ⟨q1, Nat.lt_of_lt_of_le q2 hbu.size, q3⟩
    · rw [if_neg e] at hk
      have := hbl k hk.1
      exact ⟨Nat.le_trans h2 this, hk.2, fun f => by have := hX k f; omega⟩
  · rw [List.length_append, List.length_singleton] at hj hm
    dsimp only at hk ⊢
    by_cases e : j < L.length
    · rw [if_pos e] at hk
      by_cases e2 : m < L.length
      · rw [if_pos e2]
        exact h5 j m e e2 hne k hk
      · rw [if_neg e2]
        intro f
        have := hbl k f.1
        have := (h4 j e k hk).2.1
        omega
    · rw [if_neg e] at hk
      by_cases e2 : m < L.length
      · rw [if_pos e2]
        intro f
        have := hbl k hk.1
        have := (h4 m e2 k f).2.1
        omega
      · omega
theorem Fils.at_ (h : Fils B w0 w X n L) (i : Nat) (hi : i < L.length) : ∃ bl, FSt w L[i].b L[i].y bl n L[i].N L[i].A := by
  obtain ⟨h1, h2, hX, bl, h3, h4, h5⟩ := h
  exact ⟨_, h3 i hi⟩
theorem fils_get (h : Fils B w0 w X n L) (i : Nat) (hi : i < L.length) (k : T) (hk : k.length ≤ maxLen) :
    Calls Tryz.prog 13 #[.pointer (some ⟨L[i].y, 0, Option.none⟩), .string (bs k)] w fun e w' => e = .returned (.tuple #[.string (bs ((Fil.get L[i].A k).getD [])), .bool (Fil.get L[i].A k).isSome]) ∧ Below w.heap.size w w' := by
  obtain ⟨bl, h1⟩ := h.at_ i hi
  exact (fst_get h1 k hk).mono (by rintro e w' ⟨rfl, _, hb⟩; exact ⟨rfl, hb⟩)
theorem fils_used (h : Fils B w0 w X n L) (i : Nat) (hi : i < L.length) :
    Calls Tryz.prog 12 #[.pointer (some ⟨L[i].y, 0, Option.none⟩)] w fun e w' => e = .returned (.int .i64 (used L[i].A : Int)) ∧ Below w.heap.size w w' := by
  obtain ⟨bl, h1⟩ := h.at_ i hi
  exact (fst_used h1).mono (by rintro e w' ⟨rfl, _, hb⟩; exact ⟨rfl, hb⟩)
theorem fils_names (h : Fils B w0 w X n L) (i : Nat) (hi : i < L.length) :
    Calls Tryz.prog 10 #[.pointer (some ⟨L[i].y, 0, Option.none⟩)] w fun e w' => ∃ v, e = .returned v ∧ w'.ownsRow 0 9 1 v L[i].A.length (strCells (L[i].A.map (·.1))) ∧ Below w.heap.size w w' := by
  obtain ⟨bl, h1⟩ := h.at_ i hi
  exact (fst_names h1).mono (by rintro e w' ⟨v, rfl, g1, _, hb, _⟩; exact ⟨v, rfl, g1, hb⟩)
end
end Go.Proofs.YtcljpnkknehlmaaGreat
