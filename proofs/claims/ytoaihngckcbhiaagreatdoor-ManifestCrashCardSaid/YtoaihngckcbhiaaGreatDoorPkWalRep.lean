/- WalRep -/
import Derived.Test.YtoaihngckcbhiaaGreatDoorPkWalT
import Derived.Test.YtoaihngckcbhiaaGreatDoorPkKeepsRep
namespace Go.Proofs.YtoaihngckcbhiaaGreatDoor
open Go.RowKit Go.Maps
open Wal
def RowOk (w : World) (v : Value) (l : List (List UInt8)) : Prop :=
  ∃ a cap, v = .slice a l.length cap ∧ ∀ i (h : i < l.length), ∃ g o, a = some ⟨g, o, none⟩ ∧ BlkOf w g 9 ∧ w.cell? ⟨g, o + i, none⟩ = some (.string (bs l[i]))
theorem RowOk.upd {F : Nat → Prop} {w w' : World} {v : Value} {l : List (List UInt8)} (h : RowOk w v l) (hu : Upd F w w') (hF : ∀ k, BlkOf w k 9 → ¬ F k) : RowOk w' v l := by
  obtain ⟨a, cap, e, h⟩ := h
  refine ⟨a, cap, e, fun i hi => ?_⟩
  obtain ⟨g, o, e1, e2, e3⟩ := h i hi
  exact ⟨g, o, e1, e2.upd hu (hF g e2), (hu.cell (p := ⟨g, o + i, none⟩) e2.lt (hF g e2)).trans e3⟩
theorem RowOk.texts {w : World} {v : Value} {l : List (List UInt8)} (h : RowOk w v l) : ∃ a cap, v = .slice a l.length cap ∧ TextsAt w a l := by
  obtain ⟨a, cap, e, h⟩ := h
  refine ⟨a, cap, e, fun i hi => ?_⟩
  obtain ⟨g, o, e1, _, e3⟩ := h i hi
  exact ⟨⟨g, o, none⟩, e1, by rw [add_off]; exact e3⟩
theorem RowOk.of_row {w : World} {base : Nat} {v : Value} {l : List (List UInt8)} (h : w.ownsRow base 9 1 v l.length (strCells l)) : RowOk w v l := by
  rcases h.2 with ⟨e1, e2⟩ | ⟨g, cap, cur, e1, _, hg, _⟩
  · exact ⟨none, 0, by rw [e1, e2], fun i hi => by omega⟩
  · subst e1
    refine ⟨_, cap, rfl, fun i hi => ⟨g, 0, rfl, ⟨_, _, hg⟩, ?_⟩⟩
    have := h.cells (g := g) rfl i _ (strCells_get l i hi)
    rw [add_plain] at this
    rw [Nat.zero_add]
    exact this
def GroupsAt (w : World) (v : Value) (L : List (List (List UInt8))) : Prop :=
  ∃ cs : List Value, w.ownsRow 0 30 1 v L.length cs ∧ cs.length = L.length ∧ (∀ u ∈ cs, u.oneCell' = true) ∧ ∀ i (h : i < L.length) (h' : i < cs.length), RowOk w cs[i] L[i]
theorem GroupsAt.upd {F : Nat → Prop} {w w' : World} {v : Value} {L : List (List (List UInt8))} (h : GroupsAt w v L) (hu : Upd F w w') (hF : ∀ k, BlkOf w k 9 → ¬ F k) (hG : ∀ g, v.ownBlock = some g → ¬ F g) : GroupsAt w' v L := by
  obtain ⟨cs, h1, h2, h3, h4⟩ := h
  exact ⟨cs, ownsRow_upd h1 hu hG, h2, h3, fun i hi hi' => (h4 i hi hi').upd hu hF⟩
theorem GroupsAt.none (w : World) : GroupsAt w (.slice none 0 0) [] := ⟨[], World.ownsRow_nil _ _ _ _, rfl, by simp, fun i hi => by simp at hi⟩
structure WLog where
  from_ : Nat
  n : Nat
  gen : Nat
  used : Nat
  groups : List (List (List UInt8))
  fault : Int
def walRow (L : WLog) (b : Nat) (gv : Value) : Array Value := #[.int .u64 (L.gen : Int), .int .i64 (L.used : Int), .pointer (some ⟨b, 0, none⟩), .int .i64 (L.from_ : Int), .int .i64 (L.n : Int), gv, .int .i64 L.fault]
structure WalIn (w : World) (x b : Nat) (gv : Value) (L : WLog) : Prop where
  struct : w.heap[x]? = some (.cells (walRow L b gv) 135)
  groups : GroupsAt w gv L.groups
  gen : L.gen < 18446744073709551616
  used : L.used + 1 ≤ L.n
  n : L.from_ + L.n ≤ 16384
def walBlocks (x : Nat) (gv : Value) (k : Nat) : Prop := k = x ∨ gv.ownBlock = some k
theorem WalIn.cells {w : World} {x b : Nat} {gv : Value} {L : WLog} (h : WalIn w x b gv L) :
    w.cell? ⟨x, 0, none⟩ = some (.int .u64 (L.gen : Int)) ∧ w.cell? ⟨x, 1, none⟩ = some (.int .i64 (L.used : Int)) ∧ w.cell? ⟨x, 2, none⟩ = some (.pointer (some ⟨b, 0, none⟩)) ∧ w.cell? ⟨x, 3, none⟩ = some (.int .i64 (L.from_ : Int)) ∧
    w.cell? ⟨x, 4, none⟩ = some (.int .i64 (L.n : Int)) ∧ w.cell? ⟨x, 5, none⟩ = some gv ∧ w.cell? ⟨x, 6, none⟩ = some (.int .i64 L.fault) ∧ ∀ j, w.frozen? ⟨x, j, none⟩ = false := by
  refine ⟨?_, ?_, ?_, ?_, ?_, ?_, ?_, fun j => frozen_of_row w x j _ _ h.struct⟩ <;> rw [cell_of_row w x _ _ _ _ h.struct] <;> rfl
theorem WalIn.lt {w : World} {x b : Nat} {gv : Value} {L : WLog} (h : WalIn w x b gv L) : ∀ k, walBlocks x gv k → k < w.heap.size := by
  rintro k (rfl | hk)
  · exact blk_lt h.struct
  · obtain ⟨cs, h1, _⟩ := h.groups
    exact ownsRow_lt h1 hk
theorem WalIn.ne {w : World} {x b : Nat} {gv : Value} {L : WLog} (h : WalIn w x b gv L) : gv.ownBlock ≠ some x := fun e => by
  obtain ⟨cs, h1, _⟩ := h.groups
  exact BlkOf.ne (ownsRow_blk h1 e) ⟨_, _, h.struct⟩ (by decide) rfl
theorem WalIn.upd {F : Nat → Prop} {w w' : World} {x b : Nat} {gv : Value} {L : WLog} (h : WalIn w x b gv L) (hu : Upd F w w') (hF : ∀ k, BlkOf w k 9 → ¬ F k) (hG : ∀ k, walBlocks x gv k → ¬ F k) : WalIn w' x b gv L :=
  ⟨(hu.block x (blk_lt h.struct) (hG x (.inl rfl))).trans h.struct, h.groups.upd hu hF (fun g hg => hG g (.inr hg)), h.gen, h.used, h.n⟩
theorem WalIn.below {w w' : World} {x b : Nat} {gv : Value} {L : WLog} (h : WalIn w x b gv L) (hb : Below w.heap.size w w') : WalIn w' x b gv L := h.upd (Upd.of_below (F := fun _ => False) hb) (fun _ _ f => f) (fun _ _ f => f)
theorem DiskAt.kinds2 {w : World} {b : Nat} {D : Dsk} {fp : Nat → Prop} (h : DiskAt w b D fp) (k : Nat) (hk : fp k) : ¬ BlkOf w k 135 := by
  obtain ⟨m, lv, hI, rfl⟩ := h
  rintro ⟨cs, fr, hb⟩
  rcases hk with rfl | rfl | hk
  · rw [hI.struct] at hb
    injection hb with hb
    injection hb with _ hb _
    cases hb
  · obtain ⟨kv, ⟨_, D', ⟨es, clock, hm, _⟩, _⟩, _⟩ := hI.base
    rw [hm] at hb
    injection hb with hb
    cases hb
  · rcases hI.loose.2 with ⟨e1, _⟩ | ⟨g, cap, cur, e1, _, hg, _⟩
    · subst e1; simp [Value.ownBlock] at hk
    · subst e1
      simp [Value.ownBlock] at hk
      subst hk
      rw [hg] at hb
      injection hb with hb
      injection hb with _ hb _
      cases hb
theorem WalIn.disk {w w' : World} {x b b' : Nat} {gv : Value} {L : WLog} {D : Dsk} {fp : Nat → Prop} (h : WalIn w x b gv L) (hd : DiskAt w b' D fp) (hu : Upd fp w w') : WalIn w' x b gv L :=
  h.upd hu (fun k hk hf => (hd.kinds k hf).1 hk) (fun k hk hf => by
    rcases hk with rfl | hk
    · exact hd.kinds2 k hf ⟨_, _, h.struct⟩
    · obtain ⟨cs, h1, _⟩ := h.groups
      exact (hd.kinds k hf).2 (ownsRow_blk h1 hk))
theorem RowOk.one {w : World} {v : Value} {l : List (List UInt8)} (h : RowOk w v l) : v.oneCell' = true := by
  obtain ⟨a, cap, rfl, _⟩ := h
  rfl
theorem WalIn.pushed {w w1 w2 : World} {x b : Nat} {gv lv v' : Value} {L : WLog} {l : List (List UInt8)} {cs : List Value} (h : WalIn w x b gv L) (hl : RowOk w lv l)
    (hcl : cs.length = L.groups.length) (hc1 : ∀ u ∈ cs, u.oneCell' = true) (hcr : ∀ i (h : i < L.groups.length) (h' : i < cs.length), RowOk w cs[i] L.groups[i])
    (hb : Below w.heap.size w w1) (hgrow : w1.grownBy w2 gv.ownBlock) (hown : w2.ownsRow 0 30 1 v' (L.groups.length + 1) (cs ++ [lv])) (hat : v'.ownBlock = gv.ownBlock ∨ v'.ownBlock = some w1.heap.size) :
    WalIn (w2.setCell ⟨x, 5, none⟩ v') x b v' { L with groups := L.groups ++ [l] } ∧ Upd (walBlocks x gv) w (w2.setCell ⟨x, 5, none⟩ v') ∧ Stays (walBlocks x gv) (walBlocks x v') w := by
  have hx := blk_lt h.struct
  have hsz := hb.size
  have u1 : Upd (fun k => gv.ownBlock = some k) w w2 := (Upd.of_below hb).trans (Upd.of_grownBy (F := fun k => gv.ownBlock = some k) hgrow (fun k e => e)) (fun k hk => .inl hk)
  have hs2 : w2.heap[x]? = some (.cells (walRow L b gv) 135) := (u1.block x hx (fun e => h.ne e)).trans h.struct
  have hgb : ∀ k, BlkOf w k 9 → ¬ gv.ownBlock = some k := fun k hk e => by
    obtain ⟨cs', h1, _⟩ := h.groups
    exact BlkOf.ne hk (ownsRow_blk h1 e) (by decide) rfl
  have hv' : v'.ownBlock ≠ some x := fun e => by
    rcases hat with hat | hat
    · exact h.ne (by rw [← hat, e])
    · rw [e] at hat
      have := Option.some.inj hat
      omega
  have c1 : Upd (fun k => k = x) w2 (w2.setCell ⟨x, 5, none⟩ v') := (Upd.refl (fun k => k = x) w2).setCell (p := ⟨x, 5, none⟩) (.inl rfl) _
  have keep : ∀ v l, RowOk w v l → RowOk (w2.setCell ⟨x, 5, none⟩ v') v l := fun v l hr => (hr.upd u1 hgb).upd c1 (fun k hk e => by subst e; exact BlkOf.ne hk ⟨_, _, hs2⟩ (by decide) rfl)
  refine ⟨⟨heap_setCell_same w2 x 5 _ _ v' hs2, ⟨cs ++ [lv], ?_, by simp [hcl], ?_, fun i hi hi' => ?_⟩, h.gen, h.used, h.n⟩, ?_, ?_⟩
  · show World.ownsRow _ 0 _ 1 v' (L.groups ++ [l]).length _
    rw [List.length_append]
    exact ownsRow_upd hown c1 (fun g hg e => hv' (by rw [hg, e]))
  · intro u hu
    rcases List.mem_append.1 hu with hu | hu
    · exact hc1 u hu
    · rw [List.mem_singleton] at hu; subst hu; exact hl.one
  · by_cases hlt : i < L.groups.length
    · show RowOk _ _ (L.groups ++ [l])[i]
      rw [List.getElem_append_left (by omega), List.getElem_append_left hlt]
      exact keep _ _ (hcr i hlt (by omega))
    · have hi2 : i < (L.groups ++ [l]).length := hi
      rw [List.length_append, List.length_singleton] at hi2
      have e : i = L.groups.length := by omega
      show RowOk _ _ (L.groups ++ [l])[i]
      rw [List.getElem_append_right (by omega), List.getElem_append_right (by omega)]
      simp only [List.getElem_singleton]
      exact keep _ _ hl
  · exact (u1.mono (fun k e => .inr e)).setCell (p := ⟨x, 5, none⟩) (.inl (.inl rfl)) _
  · rintro k (rfl | hk)
    · exact .inl (.inl rfl)
    · rcases hat with hat | hat
      · exact .inl (.inr (by rw [← hat]; exact hk))
      · rw [hat] at hk
        have := Option.some.inj hk
        exact .inr (by omega)
end Go.Proofs.YtoaihngckcbhiaaGreatDoor
