/- ManC -/
import Derived.Test.YtoaihngckcbhiaaGreatDoorPkManA
import Derived.Test.YtoaihngckcbhiaaGreatDoorPkFilLaw
import Derived.Test.YtoaihngckcbhiaaGreatDoorPkManB
import Derived.Laws.AppendOwnNone
import Derived.Test.YtoaihngckcbhiaaGreatDoorPkFilMade2
import Derived.Test.YtoaihngckcbhiaaGreatDoorPkSha2
import Derived.Shelf.Abstract
import Derived.Shelf.RegionOpen
import Derived.OwnWalkIn
import Derived.TacticsInMore
import Derived.LoopNIn
import Derived.LoopIn
namespace Go.Proofs.YtoaihngckcbhiaaGreatDoor.Man
open Go.Lib Fil
def Ups (l : List T) : Prop := l.Pairwise (· < ·)
theorem le_cases {a b : T} (h : a ≤ b) : a < b ∨ a = b := by
  rcases lt_tri a b with e | e | e
  · exact .inl e
  · exact .inr e
  · exact absurd e (List.not_lt.2 h)
theorem compact_up (z : List T) (hz : z.Pairwise (· ≤ ·)) : ∀ m, m ≤ z.length → Ups (compactUpTo z.toArray m) ∧ ∀ x, x ∈ compactUpTo z.toArray m ↔ x ∈ z.take m := by
  intro m
  induction m with
  | zero => exact fun _ => ⟨by simp [Ups, compactUpTo], fun x => by simp [compactUpTo]⟩
  | succ m ih =>
    intro hm
    obtain ⟨h1, h2⟩ := ih (by omega)
    have hget : ∀ j, (h : j < z.length) → z.toArray[j]! = z[j] := fun j h => by rw [getElem!_pos z.toArray j (by simpa using h)]; simp
    have htk : ∀ x, x ∈ z.take (m + 1) ↔ x ∈ z.take m ∨ x = z[m]'(by omega) := fun x => by
      rw [List.take_succ_eq_append_getElem (by omega), List.mem_append, List.mem_singleton]
    rw [compactUpTo_succ]
    by_cases hk : keeps z.toArray m = true
    · rw [if_pos hk, hget m (by omega)]
      refine ⟨List.pairwise_append.2 ⟨h1, by simp, fun a ha b hb => ?_⟩, fun x => by rw [List.mem_append, h2 x, htk x, List.mem_singleton]⟩
      rw [List.mem_singleton] at hb
      subst hb
      obtain ⟨i, hi, e⟩ := List.mem_take_iff_getElem.1 ((h2 a).1 ha)
      have hi' : i < m := by omega
      have hne : z[m]'(by omega) ≠ z[m - 1]'(by omega) := by
        have h3 := of_decide_eq_true hk
        rcases h3 with h3 | h3
        · omega
        · rwa [hget m (by omega), hget (m - 1) (by omega)] at h3
      have l1 : z[m - 1]'(by omega) < z[m]'(by omega) := by
        rcases le_cases ((List.pairwise_iff_getElem.1 hz) (m - 1) m (by omega) (by omega) (by omega)) with e | e
        · exact e
        · exact absurd e.symm hne
      by_cases him : i = m - 1
      · subst him
        rw [← e]; exact l1
      · rcases le_cases ((List.pairwise_iff_getElem.1 hz) i (m - 1) (by omega) (by omega) (by omega)) with e' | e'
        · rw [← e]; exact lt_tr e' l1
        · rw [← e, e']; exact l1
    · rw [if_neg hk, List.append_nil]
      refine ⟨h1, fun x => ?_⟩
      rw [h2 x, htk x]
      have h3 : ¬ (m = 0 ∨ z.toArray[m]! ≠ z.toArray[m - 1]!) := fun e => hk (decide_eq_true e)
      have hm0 : 0 < m := by
        by_cases e : m = 0
        · exact absurd (.inl e) h3
        · omega
      have he : z.toArray[m]! = z.toArray[m - 1]! := Classical.byContradiction fun e => h3 (.inr e)
      rw [hget m (by omega), hget (m - 1) (by omega)] at he
      refine ⟨.inl, fun e => e.elim id fun e => ?_⟩
      rw [e, he]
      exact List.mem_take_iff_getElem.2 ⟨m - 1, by omega, rfl⟩
theorem sort_le (l : List T) : (l.mergeSort fun x y => decide (x ≤ y)).Pairwise (· ≤ ·) := by
  have := List.pairwise_mergeSort (le := fun x y : T => decide (x ≤ y)) (fun a b c h1 h2 => by simpa using List.le_trans (by simpa using h1) (by simpa using h2)) (fun a b => by
    rcases List.le_total a b with h | h <;> simp [h]) l
  exact this.imp (fun h => by simpa using h)
theorem riseT_up (l : List T) : Ups (riseT l) := by
  unfold riseT compact
  exact (compact_up _ (sort_le l) _ (Nat.le_refl _)).1
theorem riseT_mem (l : List T) (x : T) : x ∈ riseT l ↔ x ∈ l := by
  unfold riseT compact
  rw [(compact_up _ (sort_le l) _ (Nat.le_refl _)).2 x, List.take_length]
  exact List.mem_mergeSort
theorem ups_ext : ∀ {a b : List T}, Ups a → Ups b → (∀ x, x ∈ a ↔ x ∈ b) → a = b
  | [], [], _, _, _ => rfl
  | [], y :: b, _, _, h => absurd ((h y).2 (by simp)) (by simp)
  | x :: a, [], _, _, h => absurd ((h x).1 (by simp)) (by simp)
  | x :: a, y :: b, ha, hb, h => by
    obtain ⟨a1, a2⟩ := List.pairwise_cons.1 ha
    obtain ⟨b1, b2⟩ := List.pairwise_cons.1 hb
    have hxy : x = y := by
      rcases List.mem_cons.1 ((h x).1 (by simp)) with e | e
      · exact e
      · rcases List.mem_cons.1 ((h y).2 (by simp)) with e' | e'
        · exact e'.symm
        · exact absurd (a1 y e') (lt_asym (b1 x e))
    subst hxy
    rw [ups_ext a2 b2 fun z => ⟨fun hz => ?_, fun hz => ?_⟩]
    · rcases List.mem_cons.1 ((h z).1 (List.mem_cons_of_mem _ hz)) with e | e
      · exact absurd (a1 z hz) (by rw [e]; exact lt_irr _)
      · exact e
    · rcases List.mem_cons.1 ((h z).2 (List.mem_cons_of_mem _ hz)) with e | e
      · exact absurd (b1 z hz) (by rw [e]; exact lt_irr _)
      · exact e
theorem riseT_of_up {l : List T} (h : Ups l) : riseT l = l := ups_ext (riseT_up l) h (riseT_mem l)
theorem ups_sub : ∀ {a b : List T}, Ups a → Ups b → (∀ x, x ∈ a → x ∈ b) → b.length ≤ a.length → a = b
  | [], [], _, _, _, _ => rfl
  | [], _ :: _, _, _, _, hl => by simp at hl
  | x :: a, [], _, _, h, _ => absurd (h x (by simp)) (by simp)
  | x :: a, y :: b, ha, hb, h, hl => by
    obtain ⟨a1, a2⟩ := List.pairwise_cons.1 ha
    obtain ⟨b1, b2⟩ := List.pairwise_cons.1 hb
    have hsub : ∀ z, z ∈ a → z ∈ b := fun z hz => by
      rcases List.mem_cons.1 (h z (List.mem_cons_of_mem _ hz)) with e | e
      · subst e
        rcases List.mem_cons.1 (h x (by simp)) with e' | e'
        · exact absurd (a1 z hz) (by rw [e']; exact lt_irr _)
        · exact absurd (a1 z hz) (lt_asym (b1 x e'))
      · exact e
    have e1 := ups_sub a2 b2 hsub (by simpa using hl)
    subst e1
    rcases List.mem_cons.1 (h x (by simp)) with e | e
    · rw [e]
    · exact absurd (a1 x e) (lt_irr x)
def putR (l : List T) (x : T) : List T := l.takeWhile (fun y => decide (y < x)) ++ (if (l.dropWhile fun y => decide (y < x)).head? = some x then l.dropWhile (fun y => decide (y < x)) else x :: l.dropWhile fun y => decide (y < x))
theorem putR_cons (y : T) (l : List T) (x : T) : putR (y :: l) x = if y < x then y :: putR l x else if y = x then y :: l else x :: y :: l := by
  unfold putR
  by_cases h : y < x
  · rw [List.takeWhile_cons_of_pos (by simpa using h), List.dropWhile_cons_of_pos (by simpa using h), if_pos h]
    rfl
  · rw [List.takeWhile_cons_of_neg (by simpa using h), List.dropWhile_cons_of_neg (by simpa using h), if_neg h]
    simp only [List.head?_cons, Option.some.injEq, List.nil_append]
theorem putR_mem (l : List T) (x z : T) : z ∈ putR l x ↔ z ∈ l ∨ z = x := by
  induction l with
  | nil => simp [putR]
  | cons y l ih =>
    rw [putR_cons]
    split
    · rw [List.mem_cons, ih, List.mem_cons, or_assoc]
    · split
      · rename_i h; rw [List.mem_cons]; subst h; constructor
        · exact .inl
        · rintro (e | e)
          · exact e
          · exact .inl e
      · rw [List.mem_cons]; exact or_comm
theorem putR_up {l : List T} (h : Ups l) (x : T) : Ups (putR l x) := by
  induction l with
  | nil => simp [putR, Ups]
  | cons y l ih =>
    obtain ⟨h1, h2⟩ := List.pairwise_cons.1 h
    rw [putR_cons]
    split
    · rename_i hy
      refine List.pairwise_cons.2 ⟨fun z hz => ?_, ih h2⟩
      rcases (putR_mem l x z).1 hz with e | e
      · exact h1 z e
      · rw [e]; exact hy
    · rename_i hy
      split
      · exact h
      · rename_i hne
        have hxy : x < y := by
          rcases lt_tri x y with e | e | e
          · exact e
          · exact absurd e.symm hne
          · exact absurd e hy
        refine List.pairwise_cons.2 ⟨fun z hz => ?_, h⟩
        rcases List.mem_cons.1 hz with e | e
        · rw [e]; exact hxy
        · exact lt_tr hxy (h1 z e)
def risingR (l : List T) : List T := l.foldl putR []
theorem risingR_go (l : List T) : ∀ o, Ups o → Ups (l.foldl putR o) ∧ ∀ z, z ∈ l.foldl putR o ↔ z ∈ o ∨ z ∈ l := by
  induction l with
  | nil => exact fun o h => ⟨h, fun z => by simp⟩
  | cons x l ih =>
    intro o h
    obtain ⟨h1, h2⟩ := ih _ (putR_up h x)
    refine ⟨h1, fun z => ?_⟩
    show z ∈ l.foldl putR (putR o x) ↔ _
    rw [h2 z, putR_mem, List.mem_cons, or_assoc]
theorem risingR_eq (l : List T) : risingR l = riseT l := by
  obtain ⟨h1, h2⟩ := risingR_go l [] List.Pairwise.nil
  exact ups_ext h1 (riseT_up l) fun z => by rw [riseT_mem]; exact (h2 z).trans (by simp)
end Go.Proofs.YtoaihngckcbhiaaGreatDoor.Man
namespace Go.Proofs.YtoaihngckcbhiaaGreatDoor.Man
open Go.RowKit Go.Maps Wal Fil
theorem wpList_append_texts {w : World} {ops : Array Oper} {rest : List Oper} {o : Oper} {a : Act} {Q : Exit → Act → World → Prop} (hgd : o.guard = none) (s x : Operand)
    (ho : o.op = .call { callee := .builtin .append, args := #[s, x], argTypes := #[30, 30] })
    (base : Nat) (v : Value) (l k : List T) (hs : a.eval s = v) (hown : RowAt w base v l) (q : Option Addr) (cap : Nat) (hx : a.eval x = .slice q k.length cap) (hk : TextsAt w q k) (hq : q = none → cap = 0)
    (hn : l.length + k.length ≤ 1000000) (hbase : base ≤ w.heap.size)
    (h : ∀ v' w', RowAt w' base v' (l ++ k) → w.grownBy w' v.ownBlock → (v'.ownBlock = v.ownBlock ∨ v'.ownBlock = some w.heap.size) → wpList Tryz.prog ops Q rest (a.put o.dst v') w') :
    wpList Tryz.prog ops Q (o :: rest) a w := by
  obtain ⟨i0, hi0, hz0, hz1, hz2⟩ := info_parts str_info
  cases q with
  | none =>
    obtain rfl : k = [] := by
      cases k with
      | nil => rfl
      | cons y k =>
        obtain ⟨p, hp, _⟩ := hk 0 (by simp)
        cases hp
    rw [hq rfl] at hx
    refine wpList_append_own_none hgd s x _ ho base 9 i0 1 Tryz.underlying30 hi0 v l.length (strCells l) hs hown hx ?_
    exact h v w (by rw [List.append_nil]; exact hown) (World.grownBy.refl w _) (.inl rfl)
  | some ad =>
    refine wpList_append_own_at w hgd s x _ ho base 9 i0 _ 1 16 Tryz.underlying30 hi0 hz0 hz1 hz2 rfl (by decide) v l.length (strCells l) hs hown ad k.length cap (strCells k) hx (by rw [Nat.mul_one]; simp [strCells]) (fun j u hu => ?_) (fun u hu => ?_) (by unfold maxLen; omega) (by omega) hbase ?_
    · have hj : j < k.length := by
        have := (List.getElem?_eq_some_iff.1 hu).1
        simpa [strCells] using this
      obtain ⟨p, hp, hc⟩ := hk j hj
      cases hp
      rw [strCells_get k j hj] at hu
      rw [hc, hu]
    · unfold strCells at hu
      obtain ⟨y, _, rfl⟩ := List.mem_map.1 hu
      rfl
    · intro v' w' h1 h2 _ h4
      refine h v' w' ?_ h2 h4
      unfold RowAt
      rw [List.length_append, show strCells (l ++ k) = strCells l ++ strCells k by unfold strCells; rw [List.map_append]]
      exact h1
theorem readTs_le {k : Nat} : ∀ {s : T} {l : List T} {r : T}, readTs k s = some (l, r) → ∀ t ∈ l, t.length ≤ 65535 := by
  induction k with
  | zero =>
    intro s l r h t ht
    cases h
    simp at ht
  | succ k ih =>
    intro s l r h t ht
    unfold readTs at h
    cases hr : readT s with
    | none => rw [hr] at h; cases h
    | some p =>
      rw [hr] at h
      cases hq : readTs k (s.drop p.2) with
      | none => simp only [Option.bind_some, hq] at h; cases h
      | some q =>
        simp only [Option.bind_some, hq, Option.map_some] at h
        cases h
        rcases List.mem_cons.1 ht with e | e
        · subst e
          have h1 := (readT_some (t := p.1) (n := p.2) hr).1
          unfold textE at h1
          split at h1
          · assumption
          · cases h1
        · exact ih hq t e
theorem unpack_fits {d : T} {v : Nat} {job : T} {l : List T} (h : unpackT d = some (v, job, l)) : v < 18446744073709551616 ∧ job.length ≤ 64 ∧ ∀ t ∈ l, t.length ≤ 65535 := by
  unfold unpackT at h
  split at h
  · cases h
  · rename_i hc
    cases hr : readT ((Crc.openT d).1.drop 8) with
    | none => rw [hr] at h; cases h
    | some p =>
      obtain ⟨j, n⟩ := p
      rw [hr] at h
      have h : (if 64 < j.length then none else (readRow (((Crc.openT d).1.drop 8).drop n)).map fun l => (Crc.val ((Crc.openT d).1.take 8), j, l)) = some (v, job, l) := h
      split at h
      · cases h
      · rename_i hj
        cases hw : readRow (((Crc.openT d).1.drop 8).drop n) with
        | none => rw [hw] at h; cases h
        | some k =>
          rw [hw, Option.map_some] at h
          injection h with h
          injection h with h1 h2
          injection h2 with h2 h3
          subst h1 h2 h3
          refine ⟨?_, by omega, ?_⟩
          · have := Crc.val_lt ((Crc.openT d).1.take 8)
            have h8 : ((Crc.openT d).1.take 8).length = 8 := by
              rw [List.length_take]
              have : ¬ (Crc.openT d).1.length < 8 := fun e => hc (.inr e)
              omega
            rw [h8] at this
            exact this
          · unfold readRow at hw
            split at hw
            · cases hw
            · cases hq : readTs (Crc.val ((((Crc.openT d).1.drop 8).drop n).take 2)) ((((Crc.openT d).1.drop 8).drop n).drop 2) with
              | none => rw [hq] at hw; cases hw
              | some q =>
                rw [hq, Option.bind_some] at hw
                split at hw
                · cases hw
                  exact readTs_le (l := q.1) (r := q.2) hq
                · cases hw
theorem now_some {A : M} {v : Nat} {job : T} {l : List T} {c : Int} (h : nowT A = (some (v, job, l), c)) : c = 0 ∧ l.length ≤ 1000 ∧ v < 18446744073709551616 ∧ job.length ≤ 64 ∧ ∀ t ∈ l, t.length ≤ 65535 := by
  unfold nowT at h
  cases hg : Fil.get A underT with
  | none => rw [hg] at h; cases h
  | some d =>
    rw [hg] at h
    have h : (match unpackT d with | none => (none, 50) | some (v, job, l) => if 1000 < l.length ∨ l ≠ riseT l then (none, 50) else (some (v, job, l), 0)) = (some (v, job, l), c) := h
    cases hu : unpackT d with
    | none => rw [hu] at h; cases h
    | some p =>
      obtain ⟨x, j, k⟩ := p
      rw [hu] at h
      have h : (if 1000 < k.length ∨ k ≠ riseT k then ((none : Option (Nat × T × List T)), (50 : Int)) else (some (x, j, k), 0)) = (some (v, job, l), c) := h
      split at h
      · cases h
      · rename_i hc
        injection h with h1 h2
        injection h1 with h1
        injection h1 with h1 h3
        injection h3 with h3 h4
        subst h1 h3 h4
        have := unpack_fits hu
        exact ⟨h2.symm, by omega, this⟩
theorem rowLen_le {l : List T} {c B : Nat} (hl : l.length ≤ c) (h : ∀ t ∈ l, t.length ≤ B) : rowLen l ≤ 2 + c * (2 + B) := by
  unfold rowLen
  have : ∀ l : List (List UInt8), (∀ t ∈ l, t.length ≤ B) → (l.map fun s : List UInt8 => 2 + s.length).sum ≤ l.length * (2 + B) := by
    intro l
    induction l with
    | nil => intro _; simp
    | cons x l ih =>
      intro h
      have h1 := ih fun t ht => h t (List.mem_cons_of_mem _ ht)
      have h2 := h x (by simp)
      rw [List.map_cons, List.sum_cons, List.length_cons, Nat.succ_mul]
      omega
  have h1 := this l h
  have h2 := Nat.mul_le_mul_right (2 + B) hl
  omega
def doneT (n : Nat) (A : M) (k : List T) : Int × M := match nowT A with
  | (none, c) => (if c ≠ 0 then c else 3, A)
  | (some (v, job, l), _) =>
    if 1000 < (riseT (l ++ k)).length then (4, A)
    else if (packT v job (riseT (l ++ k))).2 ≠ 0 ∨ (riseT (l ++ k)).length = l.length then ((packT v job (riseT (l ++ k))).2, A)
    else (codeC n A [⟨underT, (packT v job (riseT (l ++ k))).1, false⟩], nextC n A [⟨underT, (packT v job (riseT (l ++ k))).1, false⟩])
-- BEGIN
section
variable {w w1 : World} {b y n N : Nat} {bl : Nat → Prop} {A : M}
theorem rowLen_small {l : List T} (h : ∀ t ∈ l, t.length ≤ 500000) (hl : l.length ≤ 1000) : rowLen l ≤ 1000000000 := by
  have := rowLen_le hl h
  omega
set_option maxRecDepth 100000 in
set_option maxHeartbeats 8000000 in
theorem done_anyX {fz : Bool} (h : FOk fz w b y bl n N A) (hbl : ∀ k, bl k → k < w.heap.size) (hN : N < 1000000000) {q : Option Addr} {cap : Nat} {k : List T} (hk : TextsAt w q k) (hq : q = none → cap = 0) (hkl : k.length ≤ 500000) (hks : ∀ t ∈ k, t.length ≤ 500000) :
    Calls Tryz.prog 18 #[.pointer (some ⟨y, 0, none⟩), .slice q k.length cap] w fun e w' => ∃ c : Int, e = .returned (.int .i64 c) ∧ GoesX fz w b y bl n (N + 1) A (doneT n A k) c w' := by
  have HC := Lib.hid (check_any h)
  have hnow := now_any (gets_of h)
  unfold NowPost at hnow
  have H := Lib.hid h
  have HK := Lib.hid hk
  have HBL := Lib.hid hbl
  clear h hk hbl
  obtain ⟨r, hr⟩ : ∃ r, nowT A = r := ⟨_, rfl⟩
  obtain ⟨r1, cc⟩ := r
  cases r1 with
  | none =>
    have HT := Lib.hid (show doneT n A k = (if cc ≠ 0 then cc else 3, A) by unfold doneT; rw [hr])
    rw [hr] at hnow
    have HNOW := Lib.hid hnow
    clear hnow hr
    by_cases hc : cc = 0
    · subst hc
      go_enter Tryz.func18, Tryz.ntmps18
      go_wp2_with fail
      refine HC.out.mono ?_
      rintro e w1 ⟨rfl, rfl⟩
      go_wp2_with fail
      refine HNOW.out.mono ?_
      rintro e w2 ⟨hb2, rfl⟩
      have HB2 := Lib.hid hb2
      clear hb2
      go_wp2_with fail
      go_ret
      rw [HT.out]
      exact ⟨_, rfl, GoesX.same H.out (HB2.out.alloc HB2.out.size _) _⟩
    · have hci : ¬ cc = (0 : Int) := hc
      go_enter Tryz.func18, Tryz.ntmps18
      go_wp2_with fail
      refine HC.out.mono ?_
      rintro e w1 ⟨rfl, rfl⟩
      go_wp2_with fail
      refine HNOW.out.mono ?_
      rintro e w2 ⟨hb2, rfl⟩
      have HB2 := Lib.hid hb2
      clear hb2
      go_wp2_with fail
      go_ret
      rw [HT.out, if_pos hc]
      exact ⟨_, rfl, GoesX.same H.out (HB2.out.alloc HB2.out.size _) _⟩
  | some p =>
    obtain ⟨v, job, l⟩ := p
    obtain ⟨hc0, hll, hv, hjl, hls⟩ := now_some hr
    subst hc0
    obtain ⟨L, hL0⟩ : ∃ L, riseT (l ++ k) = L := ⟨_, rfl⟩
    have HL := Lib.hid hL0
    have HV := Lib.hid hv
    have HLL := Lib.hid (show ∀ t ∈ L, t.length ≤ 500000 from fun t ht => by
      rw [← hL0, riseT_mem, List.mem_append] at ht
      rcases ht with e | e
      · have := hls t e; omega
      · exact hks t e)
    obtain ⟨S, hS⟩ : ∃ S, (packT v job L).1 = S := ⟨_, rfl⟩
    obtain ⟨E, hE⟩ : ∃ E, (packT v job L).2 = E := ⟨_, rfl⟩
    have HTT := Lib.hid (show doneT n A k = if 1000 < L.length then (4, A) else if E ≠ 0 ∨ L.length = l.length then (E, A) else (codeC n A [⟨underT, S, false⟩], nextC n A [⟨underT, S, false⟩]) by unfold doneT; rw [hr]; show (if 1000 < (riseT (l ++ k)).length then _ else _) = _; rw [hL0, hS, hE])
    have hSl : E = 0 → S.length ≤ 65535 := fun e => by rw [← hS]; exact packT_len (by rw [hE]; exact e)
    rw [hr] at hnow
    have HNOW := Lib.hid hnow
    clear hnow hr hls hks hv hL0
    by_cases hL : 1000 < L.length
    · have HT := Lib.hid (show doneT n A k = (4, A) by rw [HTT.out, if_pos hL])
      have hLi : (1000 : Int) < (L.length : Int) := by omega
      go_enter Tryz.func18, Tryz.ntmps18
      go_wp2_with fail
      refine HC.out.mono ?_
      rintro e w1 ⟨rfl, rfl⟩
      go_wp2_with fail
      refine HNOW.out.mono ?_
      rintro e w2 ⟨hb2, sl, rfl, ho2, hg2⟩
      obtain ⟨q2, cap2, rfl⟩ := slice_len ho2
      have HB2 := Lib.hid hb2
      have HG2 := Lib.hid hg2
      have hba := HB2.out.alloc HB2.out.size (.cells #[.int .u64 (v : Int), .string (bs job), .slice q2 l.length cap2] 52)
      have HBA := Lib.hid hba
      have HRA := Lib.hid (heap_alloc_new w2 (.cells #[.int .u64 (v : Int), .string (bs job), .slice q2 l.length cap2] 52))
      have HOA := Lib.hid (ho2.alloc (.cells #[.int .u64 (v : Int), .string (bs job), .slice q2 l.length cap2] 52))
      have hown2 := fun g (hg : (Value.slice q2 l.length cap2).ownBlock = some g) => ownsRow_lt ho2 hg
      have HOWN2 := Lib.hid hown2
      have HKA := Lib.hid (HK.out.below hba)
      have HSA := Lib.hid (World.size_alloc w2 (.cells #[.int .u64 (v : Int), .string (bs job), .slice q2 l.length cap2] 52))
      obtain ⟨c0, c1, c2, f0, f1, f2⟩ := row3 HRA.out
      clear hb2 hg2 ho2 hba hown2
      go_wp2_with (at_builtin; refine wpList_append_texts rfl _ _ rfl 0 (.slice q2 l.length cap2) l k rfl HOA.out q cap rfl HKA.out hq (by omega) (Nat.zero_le _) ?_; intro v3 w3 ho3 hg3 hat3; obtain ⟨q3, cap3, rfl⟩ := slice_len ho3; have HO3 := Lib.hid ho3; have HG3 := Lib.hid hg3; clear ho3 hg3 hat3)
      have hlt2 : w2.heap.size < (w2.alloc (.cells #[.int .u64 (v : Int), .string (bs job), .slice q2 l.length cap2] 52)).heap.size := by rw [HSA.out]; omega
      have HB3 := Lib.hid (HBA.out.grown HG3.out (by rw [HSA.out]; have := HB2.out.size; omega) (fun j hj => HG2.out j hj))
      have HR3 := Lib.hid ((HG3.out.block w2.heap.size hlt2 (fun e => by have := HOWN2.out _ e.symm; omega)).trans HRA.out)
      have hlt3 := blk_lt HR3.out
      have HRS := Lib.hid (rising_any HO3.out (by rw [List.length_append]; omega))
      rw [List.length_append] at HRS
      clear c0 c1 c2 f0 f1 f2
      refine HRS.out.mono ?_
      rintro e w4 ⟨v4, rfl, ho4, hb4⟩
      obtain ⟨q4, cap4, rfl⟩ := slice_len ho4
      rw [HL.out] at ho4 ⊢
      have HO4 := Lib.hid ho4
      have HB4 := Lib.hid (HB3.out.trans (hb4.mono HB3.out.size))
      have HR4 := Lib.hid ((hb4.block _ hlt3).trans HR3.out)
      clear ho4 hb4 hlt3
      obtain ⟨c0, c1, c2, f0, f1, f2⟩ := row3 HR4.out
      go_wp2_with fail
      go_ret
      rw [HT.out]
      exact ⟨_, rfl, GoesX.same H.out HB4.out _⟩
    · have hLi : ¬ (1000 : Int) < (L.length : Int) := by omega
      by_cases hE0 : E = 0
      · subst hE0
        have hSl := hSl rfl
        by_cases hLn : L.length = l.length
        · have HT := Lib.hid (show doneT n A k = (0, A) by rw [HTT.out, if_neg hL, if_pos (.inr hLn)])
          have hLni : (L.length : Int) = (l.length : Int) := by omega
          go_enter Tryz.func18, Tryz.ntmps18
          go_wp2_with fail
          refine HC.out.mono ?_
          rintro e w1 ⟨rfl, rfl⟩
          go_wp2_with fail
          refine HNOW.out.mono ?_
          rintro e w2 ⟨hb2, sl, rfl, ho2, hg2⟩
          obtain ⟨q2, cap2, rfl⟩ := slice_len ho2
          have HB2 := Lib.hid hb2
          have HG2 := Lib.hid hg2
          have hba := HB2.out.alloc HB2.out.size (.cells #[.int .u64 (v : Int), .string (bs job), .slice q2 l.length cap2] 52)
          have HBA := Lib.hid hba
          have HRA := Lib.hid (heap_alloc_new w2 (.cells #[.int .u64 (v : Int), .string (bs job), .slice q2 l.length cap2] 52))
          have HOA := Lib.hid (ho2.alloc (.cells #[.int .u64 (v : Int), .string (bs job), .slice q2 l.length cap2] 52))
          have hown2 := fun g (hg : (Value.slice q2 l.length cap2).ownBlock = some g) => ownsRow_lt ho2 hg
          have HOWN2 := Lib.hid hown2
          have HKA := Lib.hid (HK.out.below hba)
          have HSA := Lib.hid (World.size_alloc w2 (.cells #[.int .u64 (v : Int), .string (bs job), .slice q2 l.length cap2] 52))
          obtain ⟨c0, c1, c2, f0, f1, f2⟩ := row3 HRA.out
          clear hb2 hg2 ho2 hba hown2
          go_wp2_with (at_builtin; refine wpList_append_texts rfl _ _ rfl 0 (.slice q2 l.length cap2) l k rfl HOA.out q cap rfl HKA.out hq (by omega) (Nat.zero_le _) ?_; intro v3 w3 ho3 hg3 hat3; obtain ⟨q3, cap3, rfl⟩ := slice_len ho3; have HO3 := Lib.hid ho3; have HG3 := Lib.hid hg3; clear ho3 hg3 hat3)
          have hlt2 : w2.heap.size < (w2.alloc (.cells #[.int .u64 (v : Int), .string (bs job), .slice q2 l.length cap2] 52)).heap.size := by rw [HSA.out]; omega
          have HB3 := Lib.hid (HBA.out.grown HG3.out (by rw [HSA.out]; have := HB2.out.size; omega) (fun j hj => HG2.out j hj))
          have HR3 := Lib.hid ((HG3.out.block w2.heap.size hlt2 (fun e => by have := HOWN2.out _ e.symm; omega)).trans HRA.out)
          have hlt3 := blk_lt HR3.out
          have HRS := Lib.hid (rising_any HO3.out (by rw [List.length_append]; omega))
          rw [List.length_append] at HRS
          clear c0 c1 c2 f0 f1 f2
          refine HRS.out.mono ?_
          rintro e w4 ⟨v4, rfl, ho4, hb4⟩
          obtain ⟨q4, cap4, rfl⟩ := slice_len ho4
          rw [HL.out] at ho4 ⊢
          have HO4 := Lib.hid ho4
          have HB4 := Lib.hid (HB3.out.trans (hb4.mono HB3.out.size))
          have HR4 := Lib.hid ((hb4.block _ hlt3).trans HR3.out)
          clear ho4 hb4 hlt3
          obtain ⟨c0, c1, c2, f0, f1, f2⟩ := row3 HR4.out
          go_wp2_with fail
          have HPK := Lib.hid (pack_any v job L q4 cap4 w4 HV.out (textsAt_of_row HO4.out) (by unfold maxLen; omega) (rowLen_small HLL.out (Nat.le_of_not_lt hL)))
          rw [hS, hE, hLn] at HPK
          refine HPK.out.mono ?_
          rintro e w5 ⟨rfl, hb5⟩
          have HB5 := Lib.hid (HB4.out.trans (hb5.mono HB4.out.size))
          clear hb5
          go_wp2_with fail
          go_ret
          rw [HT.out]
          exact ⟨_, rfl, GoesX.same H.out HB5.out _⟩
        · have HT := Lib.hid (show doneT n A k = (codeC n A [⟨underT, S, false⟩], nextC n A [⟨underT, S, false⟩]) by rw [HTT.out, if_neg hL, if_neg (by simp [hLn])])
          have hLni : ¬ (L.length : Int) = (l.length : Int) := by omega
          have HCOM := Lib.hid (fun W (hW : Below w.heap.size w W) => fok_commit (cap := 1) (l := [⟨underT, S, false⟩]) (H.out.below (hW.alloc hW.size (.cells #[.string { data := #[117, 110, 100, 101, 114] }, .string (bs S), .bool false] 99))) hN (chgs_one (c := ⟨underT, S, false⟩) (heap_alloc_new W _)) (by simp) (by simp [weigh, underT]; omega))
          go_enter Tryz.func18, Tryz.ntmps18
          go_wp2_with fail
          refine HC.out.mono ?_
          rintro e w1 ⟨rfl, rfl⟩
          go_wp2_with fail
          refine HNOW.out.mono ?_
          rintro e w2 ⟨hb2, sl, rfl, ho2, hg2⟩
          obtain ⟨q2, cap2, rfl⟩ := slice_len ho2
          have HB2 := Lib.hid hb2
          have HG2 := Lib.hid hg2
          have hba := HB2.out.alloc HB2.out.size (.cells #[.int .u64 (v : Int), .string (bs job), .slice q2 l.length cap2] 52)
          have HBA := Lib.hid hba
          have HRA := Lib.hid (heap_alloc_new w2 (.cells #[.int .u64 (v : Int), .string (bs job), .slice q2 l.length cap2] 52))
          have HOA := Lib.hid (ho2.alloc (.cells #[.int .u64 (v : Int), .string (bs job), .slice q2 l.length cap2] 52))
          have hown2 := fun g (hg : (Value.slice q2 l.length cap2).ownBlock = some g) => ownsRow_lt ho2 hg
          have HOWN2 := Lib.hid hown2
          have HKA := Lib.hid (HK.out.below hba)
          have HSA := Lib.hid (World.size_alloc w2 (.cells #[.int .u64 (v : Int), .string (bs job), .slice q2 l.length cap2] 52))
          obtain ⟨c0, c1, c2, f0, f1, f2⟩ := row3 HRA.out
          clear hb2 hg2 ho2 hba hown2
          go_wp2_with (at_builtin; refine wpList_append_texts rfl _ _ rfl 0 (.slice q2 l.length cap2) l k rfl HOA.out q cap rfl HKA.out hq (by omega) (Nat.zero_le _) ?_; intro v3 w3 ho3 hg3 hat3; obtain ⟨q3, cap3, rfl⟩ := slice_len ho3; have HO3 := Lib.hid ho3; have HG3 := Lib.hid hg3; clear ho3 hg3 hat3)
          have hlt2 : w2.heap.size < (w2.alloc (.cells #[.int .u64 (v : Int), .string (bs job), .slice q2 l.length cap2] 52)).heap.size := by rw [HSA.out]; omega
          have HB3 := Lib.hid (HBA.out.grown HG3.out (by rw [HSA.out]; have := HB2.out.size; omega) (fun j hj => HG2.out j hj))
          have HR3 := Lib.hid ((HG3.out.block w2.heap.size hlt2 (fun e => by have := HOWN2.out _ e.symm; omega)).trans HRA.out)
          have hlt3 := blk_lt HR3.out
          have HRS := Lib.hid (rising_any HO3.out (by rw [List.length_append]; omega))
          rw [List.length_append] at HRS
          clear c0 c1 c2 f0 f1 f2
          refine HRS.out.mono ?_
          rintro e w4 ⟨v4, rfl, ho4, hb4⟩
          obtain ⟨q4, cap4, rfl⟩ := slice_len ho4
          rw [HL.out] at ho4 ⊢
          have HO4 := Lib.hid ho4
          have HB4 := Lib.hid (HB3.out.trans (hb4.mono HB3.out.size))
          have HR4 := Lib.hid ((hb4.block _ hlt3).trans HR3.out)
          clear ho4 hb4 hlt3
          obtain ⟨c0, c1, c2, f0, f1, f2⟩ := row3 HR4.out
          go_wp2_with fail
          have HPK := Lib.hid (pack_any v job L q4 cap4 w4 HV.out (textsAt_of_row HO4.out) (by unfold maxLen; omega) (rowLen_small HLL.out (Nat.le_of_not_lt hL)))
          rw [hS, hE] at HPK
          refine HPK.out.mono ?_
          rintro e w5 ⟨rfl, hb5⟩
          have HB5 := Lib.hid (HB4.out.trans (hb5.mono HB4.out.size))
          clear hb5
          go_wp2_with fail
          refine (HCOM.out _ HB5.out).mono ?_
          rintro e w6 ⟨c6, rfl, bl', g1, g2, g3⟩
          have HG := Lib.hid (GoesX.after (HB5.out.alloc HB5.out.size (.cells #[.string { data := #[117, 110, 100, 101, 114] }, .string (bs S), .bool false] 99)) g1 g2 g3 HBL.out)
          clear g1 g2 g3
          go_wp2_with fail
          go_ret
          rw [HT.out]
          exact ⟨_, rfl, HG.out⟩
      · have HT := Lib.hid (show doneT n A k = (E, A) by rw [HTT.out, if_neg hL, if_pos (.inl hE0)])
        go_enter Tryz.func18, Tryz.ntmps18
        go_wp2_with fail
        refine HC.out.mono ?_
        rintro e w1 ⟨rfl, rfl⟩
        go_wp2_with fail
        refine HNOW.out.mono ?_
        rintro e w2 ⟨hb2, sl, rfl, ho2, hg2⟩
        obtain ⟨q2, cap2, rfl⟩ := slice_len ho2
        have HB2 := Lib.hid hb2
        have HG2 := Lib.hid hg2
        have hba := HB2.out.alloc HB2.out.size (.cells #[.int .u64 (v : Int), .string (bs job), .slice q2 l.length cap2] 52)
        have HBA := Lib.hid hba
        have HRA := Lib.hid (heap_alloc_new w2 (.cells #[.int .u64 (v : Int), .string (bs job), .slice q2 l.length cap2] 52))
        have HOA := Lib.hid (ho2.alloc (.cells #[.int .u64 (v : Int), .string (bs job), .slice q2 l.length cap2] 52))
        have hown2 := fun g (hg : (Value.slice q2 l.length cap2).ownBlock = some g) => ownsRow_lt ho2 hg
        have HOWN2 := Lib.hid hown2
        have HKA := Lib.hid (HK.out.below hba)
        have HSA := Lib.hid (World.size_alloc w2 (.cells #[.int .u64 (v : Int), .string (bs job), .slice q2 l.length cap2] 52))
        obtain ⟨c0, c1, c2, f0, f1, f2⟩ := row3 HRA.out
        clear hb2 hg2 ho2 hba hown2
        go_wp2_with (at_builtin; refine wpList_append_texts rfl _ _ rfl 0 (.slice q2 l.length cap2) l k rfl HOA.out q cap rfl HKA.out hq (by omega) (Nat.zero_le _) ?_; intro v3 w3 ho3 hg3 hat3; obtain ⟨q3, cap3, rfl⟩ := slice_len ho3; have HO3 := Lib.hid ho3; have HG3 := Lib.hid hg3; clear ho3 hg3 hat3)
        have hlt2 : w2.heap.size < (w2.alloc (.cells #[.int .u64 (v : Int), .string (bs job), .slice q2 l.length cap2] 52)).heap.size := by rw [HSA.out]; omega
        have HB3 := Lib.hid (HBA.out.grown HG3.out (by rw [HSA.out]; have := HB2.out.size; omega) (fun j hj => HG2.out j hj))
        have HR3 := Lib.hid ((HG3.out.block w2.heap.size hlt2 (fun e => by have := HOWN2.out _ e.symm; omega)).trans HRA.out)
        have hlt3 := blk_lt HR3.out
        have HRS := Lib.hid (rising_any HO3.out (by rw [List.length_append]; omega))
        rw [List.length_append] at HRS
        clear c0 c1 c2 f0 f1 f2
        refine HRS.out.mono ?_
        rintro e w4 ⟨v4, rfl, ho4, hb4⟩
        obtain ⟨q4, cap4, rfl⟩ := slice_len ho4
        rw [HL.out] at ho4 ⊢
        have HO4 := Lib.hid ho4
        have HB4 := Lib.hid (HB3.out.trans (hb4.mono HB3.out.size))
        have HR4 := Lib.hid ((hb4.block _ hlt3).trans HR3.out)
        clear ho4 hb4 hlt3
        obtain ⟨c0, c1, c2, f0, f1, f2⟩ := row3 HR4.out
        go_wp2_with fail
        have HPK := Lib.hid (pack_any v job L q4 cap4 w4 HV.out (textsAt_of_row HO4.out) (by unfold maxLen; omega) (rowLen_small HLL.out (Nat.le_of_not_lt hL)))
        rw [hS, hE] at HPK
        refine HPK.out.mono ?_
        rintro e w5 ⟨rfl, hb5⟩
        have HB5 := Lib.hid (HB4.out.trans (hb5.mono HB4.out.size))
        clear hb5
        go_wp2_with fail
        go_ret
        rw [HT.out]
        exact ⟨_, rfl, GoesX.same H.out HB5.out _⟩
theorem done_any (h : FSt w b y bl n N A) (hbl : ∀ k, bl k → k < w.heap.size) (hN : N < 1000000000) {q : Option Addr} {cap : Nat} {k : List T} (hk : TextsAt w q k) (hq : q = none → cap = 0) (hkl : k.length ≤ 500000) (hks : ∀ t ∈ k, t.length ≤ 500000) :
    Calls Tryz.prog 18 #[.pointer (some ⟨y, 0, none⟩), .slice q k.length cap] w fun e w' => e = .returned (.int .i64 (doneT n A k).1) ∧ Goes w b y bl n (N + 1) (doneT n A k).2 w' :=
  (done_anyX h hbl hN hk hq hkl hks).mono fun e w' ⟨c, he, hg⟩ => by
    obtain ⟨rfl, g⟩ := hg.calm
    exact ⟨he, g⟩
end
-- END
end Go.Proofs.YtoaihngckcbhiaaGreatDoor.Man
namespace Go.Proofs.YtoaihngckcbhiaaGreatDoor.Man
open Go.RowKit Go.Maps Wal Fil
attribute [local go_sem] Oper.semAt_some
def outG (l : List T) (k : Nat) : Chg := ⟨outT k, Crc.sealT (l.getD k []), false⟩
def goneG (n j : Nat) : Chg := ⟨outT (n + j), [], true⟩
def pubC (S : T) (l : List T) (k j : Nat) : List Chg := [⟨manT, S, false⟩, ⟨underT, [], true⟩] ++ (List.range k).map (outG l) ++ (List.range j).map (goneG l.length)
theorem pubC_out (S : T) (l : List T) (k : Nat) : pubC S l (k + 1) 0 = pubC S l k 0 ++ [outG l k] := by
  unfold pubC
  simp [List.range_succ]
theorem pubC_gone (S : T) (l : List T) (k j : Nat) : pubC S l k (j + 1) = pubC S l k j ++ [goneG l.length j] := by
  unfold pubC
  simp [List.range_succ]
theorem pubC_length (S : T) (l : List T) (k j : Nat) : (pubC S l k j).length = 2 + k + j := by
  unfold pubC
  simp
  omega
set_option maxRecDepth 100000 in
theorem goneF_any (n : Nat) (w : World) :
    Calls Tryz.prog 53 #[.int .i64 (n : Int)] w fun e w' => e = .returned (.func (.func 113) #[] #[.pointer (some ⟨w.heap.size, 0, none⟩)]) ∧ w' = w.alloc (.cells #[.int .i64 (n : Int)] 3) := by
  go_enter Tryz.func53, Tryz.ntmps53
  go_wp2_with fail
  go_ret
  exact ⟨rfl, rfl⟩
def GoIa (k0 : Nat) (J : Nat → World → Prop) (xs : List Nat) (W : World) : Prop := xs.length ≤ 16 - k0 ∧ J xs.length W
def GoIy (k0 : Nat) (J : Nat → World → Prop) (xs : List Nat) (x : Nat) (W : World) : Prop := xs.length < 16 - k0 ∧ x = k0 + xs.length ∧ J xs.length W
set_option maxRecDepth 100000 in
set_option maxHeartbeats 2000000 in
theorem gone_two (n : Nat) (hn : 1 ≤ n) (Bx k0 : Nat) (hk : k0 ≤ 16) {J : Nat → World → Prop} (hJ : ∀ j W, J j W → W.cell? ⟨Bx, 0, none⟩ = some (.int .i64 (k0 : Int))) (w : World) :
    SeqTwo n Tryz.prog 113 #[.pointer (some ⟨Bx, 0, none⟩)] (fun x : Nat => #[.int .i64 (x : Int)]) (GoIa k0 J) (GoIy k0 J) (fun xs => xs.length = 16 - k0) w := by
  intro l Bk W hBk hY hW h0 hk0
  have hbx := hJ _ _ h0.2
  have H0 := Lib.hid h0; have HK0 := Lib.hid hk0
  clear h0 hk0
  refine callsIn_of_wp Tryz.func113 rfl trivial ?_ rfl
  simp only [Tryz.ntmps113, List.size_toArray, List.length_cons, List.length_nil, Nat.reduceAdd, Nat.reduceSub, Array.replicate_succ, Array.replicate_zero, List.push_toArray, List.append_toArray, List.nil_append, List.cons_append]
  gi_wp2
  gi_loopw [3] (fun i wr => ∃ (xs : List Nat) (x : Nat), x = k0 + xs.length ∧ i = .int .i64 (x : Int) ∧ GoIa k0 J xs wr ∧ Bk wr) (fun i _ => 16 - (intOf i).toNat)
  case atStart => exact ⟨[], k0, rfl, rfl, H0.out, HK0.out⟩
  case round =>
    obtain ⟨xs, x, hx, rfl, hI, hkk⟩ := hrel
    have hle := hI.1
    have HK := Lib.hid hkk; have HX := Lib.hid hx; have HI := Lib.hid hI
    clear hkk hI hbx H0 HK0 hx
    by_cases hlt : x < 16
    · have hiy : GoIy k0 J xs x wr := ⟨by have := HX.out; omega, HX.out, HI.out.2⟩
      obtain ⟨fn, tmps, assign, body, hy, hR⟩ := hY xs x wr hiy HK.out
      have hlti : (x : Int) < 16 := by omega
      clear hiy hle
      gi_wp2
      refine hR.mono ?_
      rintro e W3 ⟨rfl, h1, h2⟩
      have H1 := Lib.hid h1; have H2 := Lib.hid h2
      clear h1 h2 hy hR
      gi_wp2
      go_roundw
      case rel => exact ⟨xs ++ [x], x + 1, by rw [List.length_append, HX.out]; rfl, by go_num, H1.out, H2.out⟩
      case measure => simp [intOf]; omega
    · have hend : ¬ (x : Int) < 16 := by omega
      have HKE := Lib.hid (show xs.length = 16 - k0 by have := HX.out; omega)
      clear hle
      gi_wp2
      go_end0
      exact ⟨⟨_, rfl⟩, xs, HKE.out, HI.out, HK.out⟩
theorem keeps_of_upd {F : Nat → Prop} {W W' : World} (hu : Upd F W W') (hF : ∀ k o, F k → W.heap[k]? = some o → o.isCells = true) : KeepsOthers W W' :=
  ⟨hu.size, fun k o hk ho => (hu.block k (Array.getElem?_eq_some_iff.1 hk).1 (fun f => by have := hF k o f hk; rw [ho] at this; cases this)).trans hk⟩
structure InC (w : World) (cB : Nat) (M : Array Value) (W : World) (l : List Chg) (v : Value) : Prop where
  bel : Below w.heap.size w W
  man : W.heap[w.heap.size]? = some (.cells M 32)
  low : w.heap.size ≤ cB
  box : W.heap[cB]? = some (.cells #[v] 85)
  row : W.ownsRow w.heap.size 99 3 v l.length (chgCells l)
section
variable {w W W1 W2 : World} {cB : Nat} {M : Array Value} {l : List Chg} {v : Value}
theorem InC.below (h : InC w cB M W l v) (hb : Below W.heap.size W W1) : InC w cB M W1 l v :=
  ⟨h.bel.trans (hb.mono h.bel.size), (hb.block _ (blk_lt h.man)).trans h.man, h.low, (hb.block _ (blk_lt h.box)).trans h.box, row_below h.row hb⟩
theorem InC.ne (h : InC w cB M W l v) {k : Nat} (hk : v.ownBlock = some k) : k ≠ cB ∧ k ≠ w.heap.size ∧ w.heap.size ≤ k := by
  have := ownsRow_blk h.row hk
  obtain ⟨cs, fz, h1⟩ := this
  refine ⟨fun e => ?_, fun e => ?_, row_low h.row hk⟩
  · rw [e, h.box] at h1
    injection h1 with h1
    injection h1 with _ h1
    exact absurd h1 (by decide)
  · rw [e, h.man] at h1
    injection h1 with h1
    injection h1 with _ h1
    exact absurd h1 (by decide)
theorem InC.add (h : InC w cB M W l v) (hb : Below W.heap.size W W1) (hg : W1.grownBy W2 v.ownBlock) {v' : Value} (c : Chg)
    (ho : W2.ownsRow w.heap.size 99 3 v' (l.length + 1) (chgCells l ++ [.string (bs c.name), .string (bs c.data), .bool c.gone])) :
    InC w cB M (W2.setCell ⟨cB, 0, none⟩ v') (l ++ [c]) v' := by
  have h1 := h.below hb
  have hbox2 : W2.heap[cB]? = some (.cells #[v] 85) := (hg.block cB (blk_lt h1.box) (fun e => (h1.ne e.symm).1 rfl)).trans h1.box
  have hman2 : W2.heap[w.heap.size]? = some (.cells M 32) := (hg.block w.heap.size (blk_lt h1.man) (fun e => (h1.ne e.symm).2.1 rfl)).trans h1.man
  have hu := (Upd.refl (fun k => k = cB) W2).setCell (p := ⟨cB, 0, none⟩) (.inl rfl) v'
  have hne : w.heap.size ≠ cB := fun e => by
    have := h.box
    rw [← e, h.man] at this
    injection this with this
    injection this with _ this
    exact absurd this (by decide)
  refine ⟨(h1.bel.grown hg h1.bel.size (fun k e => (h1.ne e).2.2)).setCell (p := ⟨cB, 0, none⟩) h.low v', (hu.block _ (blk_lt hman2) hne).trans hman2, h.low, heap_setCell_same W2 cB 0 _ _ v' hbox2, ?_⟩
  rw [List.length_append, chgCells_snoc]
  refine ownsRow_upd ho hu (fun g hg e => ?_)
  obtain ⟨cs, fz, h2⟩ := ownsRow_blk ho hg
  rw [e, hbox2] at h2
  injection h2 with h2
  injection h2 with _ h2
  exact absurd h2 (by decide)
theorem InC.keeps (h : InC w cB M W l v) (hb : Below W.heap.size W W1) (hg : W1.grownBy W2 v.ownBlock) (v' : Value) : KeepsOthers W (W2.setCell ⟨cB, 0, none⟩ v') := by
  have h1 := h.below hb
  refine ((keeps_of_upd (Upd.of_below (F := fun _ => False) hb) (fun _ _ f => f.elim)).trans (KeepsOthers.of_grownBy hg fun j o e ho => ?_)).trans (KeepsOthers.setCell _ _ _)
  obtain ⟨cs, fz, h2⟩ := ownsRow_blk h1.row e
  rw [ho] at h2
  injection h2 with h2
  subst h2
  rfl
theorem InC.put (h : InC w cB M W l v) {k : Nat} {o o' : Obj} (ho : W.heap[k]? = some o) (hc : o.isCells = false) (hk : w.heap.size ≤ k) : InC w cB M (W.putObj k o') l v := by
  have hu : Upd (fun i => i = k) W (W.putObj k o') := Upd.of_grownBy (F := fun i => i = k) (grownBy_putObj' W k o') (fun i e => by cases e; rfl)
  refine ⟨below_upd h.bel hu (fun i e => by rw [e]; exact hk) h.bel.size, put_other h.man ho hc, h.low, put_other h.box ho hc, ownsRow_upd h.row hu (fun g hg e => ?_)⟩
  obtain ⟨cs, fz, h2⟩ := ownsRow_blk h.row hg
  rw [e, ho] at h2
  injection h2 with h2
  subst h2
  cases hc
theorem InC.alloc (h : InC w cB M W l v) (o : Obj) : InC w cB M (W.alloc o) l v := h.below ((Below.refl _ W).alloc (Nat.le_refl _) o)
end
end Go.Proofs.YtoaihngckcbhiaaGreatDoor.Man
