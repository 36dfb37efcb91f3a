/- strings.Builder: copyCheck, Write, String, walked, at a builder that the call itself has made. -/
import Derived.Test.YtdmbadkpendfhaaGreatDoorDiskRep
import Derived.Lib.Builder
import Derived.Lib.UnsafeStr
import Derived.Laws.Externs
import Derived.Maps.AppendAt
import Derived.BigQuiet
import Derived.Deep.QuietTactic
namespace Go.Proofs.YtdmbadkpendfhaaGreatDoor
open Go.RowKit Go.Maps

/-- A builder in block b that holds these bytes; it has these blocks. -/
def BuiltAt (w : World) (b : Nat) (l : List UInt8) (fp : Nat → Prop) : Prop :=
  ∃ p v, w.heap[b]? = some (.cells #[.pointer p, v] 194) ∧ (p = none ∨ p = some ⟨b, 0, none⟩) ∧ w.ownsRow 0 5 1 v l.length (u8cells l) ∧ v.ownBlock ≠ some b ∧ (l = [] → v = .slice none 0 0) ∧ fp = fun k => k = b ∨ v.ownBlock = some k

theorem BuiltAt.made (w : World) : BuiltAt (w.alloc (.cells #[.pointer none, .slice none 0 0] 194)) w.heap.size [] (fun k => k = w.heap.size ∨ (Value.slice none 0 0).ownBlock = some k) :=
  ⟨none, .slice none 0 0, heap_alloc_new w _, .inl rfl, ⟨by rw [u8cells_length]; rfl, .inl ⟨rfl, rfl⟩⟩, by simp [Value.ownBlock], fun _ => rfl, rfl⟩
theorem BuiltAt.lt {w : World} {b : Nat} {l : List UInt8} {fp : Nat → Prop} (h : BuiltAt w b l fp) : ∀ k, fp k → k < w.heap.size := by
  obtain ⟨p, v, h1, _, h3, _, _, rfl⟩ := h
  rintro k (rfl | hk)
  · exact (Array.getElem?_eq_some_iff.1 h1).1
  · exact ownsRow_lt h3 hk
theorem BuiltAt.own {w : World} {b : Nat} {l : List UInt8} {fp : Nat → Prop} (h : BuiltAt w b l fp) : fp b := by
  obtain ⟨p, v, _, _, _, _, _, rfl⟩ := h
  exact .inl rfl
theorem BuiltAt.upd {F : Nat → Prop} {w w' : World} {b : Nat} {l : List UInt8} {fp : Nat → Prop} (h : BuiltAt w b l fp) (hu : Upd F w w') (hF : ∀ k, fp k → ¬ F k) : BuiltAt w' b l fp := by
  obtain ⟨p, v, h1, h2, h3, h4, h5, rfl⟩ := h
  exact ⟨p, v, by rw [hu.block b (Array.getElem?_eq_some_iff.1 h1).1 (hF b (.inl rfl))]; exact h1, h2, ownsRow_upd h3 hu (fun g hg => hF g (.inr hg)), h4, h5, rfl⟩

theorem builder_size : ∃ j, Tryz.prog.info? 194 = some j ∧ j.size = 2 := by
  have h : (Tryz.prog.info? 194).map (·.size) = some 2 := by kernel_rfl
  exact Option.map_eq_some_iff.1 h
theorem builder_lies : liesAt Tryz.prog Tryz.prog.depth 194 (2 / Tryz.prog.cellsOf 194) 0 194 1 = true := by kernel_rfl
theorem byte_info : (Tryz.prog.info? 5).map (fun i => (i.zero, i.size, i.bytes)) = some (some (.int .u8 0), 1, 1) := by kernel_rfl

set_option maxRecDepth 100000 in
set_option maxHeartbeats 1000000 in
theorem copyCheck_any (b : Nat) (p : Option Addr) (v : Value) (w : World) (hb : w.heap[b]? = some (.cells #[.pointer p, v] 194)) (hp : p = none ∨ p = some ⟨b, 0, none⟩) :
    Calls Tryz.prog 160 #[.pointer (some ⟨b, 0, none⟩)] w fun e w' => e = .returned (.tuple #[]) ∧ w'.heap[b]? = some (.cells #[.pointer (some ⟨b, 0, none⟩), v] 194) ∧ Upd (fun k => k = b) w w' := by
  obtain ⟨j, hj, hjs⟩ := builder_size
  have c0 : w.cell? ⟨b, 0, none⟩ = some (.pointer p) := by rw [Lib.cell_of_heap hb]; rfl
  rcases hp with rfl | rfl
  · have hf := Lib.frozen_of_heap hb 0
    have hsh : w.shape? b = some (194, 2) := by simp [World.shape?, hb]
    go_enter Tryz.func160, Tryz.ntmps160
    go_wp2_with fail
    rw [Lib.run_to_unsafe w ⟨b, 0, none⟩ Tryz.underlying192 Tryz.underlying242 hj (by rw [hjs]; decide) hsh (Nat.zero_lt_succ 1)]
    simp only [Result.andThen]
    rw [Oper.upon_value]
    go_wp2_with fail
    rw [run_callFunc_extern Tryz.func182 (by kernel_rfl) (by kernel_rfl) (by kernel_rfl) (e := Extern.AbiNoEscape.same) (by kernel_rfl)]
    rw [Lib.run_noEscape]
    simp only [Result.andThen]
    rw [Oper.upon_value]
    go_wp2_with fail
    rw [Lib.run_from_unsafe w ⟨b, 0, none⟩ Tryz.underlying242 Tryz.underlying192 hj hsh builder_lies]
    simp only [Result.andThen]
    rw [Oper.upon_value]
    go_wp2_with fail
    go_end0
    exact ⟨rfl, heap_setCell_same w b 0 _ _ _ hb, (Upd.refl (fun k => k = b) w).setCell (p := ⟨b, 0, none⟩) (.inl rfl) _⟩
  · go_enter Tryz.func160, Tryz.ntmps160
    go_wp2_with fail
    rw [Lib.run_neq_ptr_same w _ Tryz.underlying192 hj]
    go_wp2_with fail
    go_end0
    exact ⟨rfl, hb, Upd.refl _ _⟩


set_option maxRecDepth 100000 in
set_option maxHeartbeats 1000000 in
theorem bwrite_any {w : World} {b : Nat} {l : List UInt8} {fp : Nat → Prop} (h : BuiltAt w b l fp) (g off c : Nat) (k : List UInt8) (hk : ∀ i, (hi : i < k.length) → w.cell? ⟨g, off + i, none⟩ = some (.int .u8 (k[i].toNat : Int)))
    (hg : ¬ fp g) (hlen : l.length + k.length ≤ 1099511627776) (n : Nat) (hn : k.length = n) :
    Calls Tryz.prog 141 #[.pointer (some ⟨b, 0, none⟩), .slice (some ⟨g, off, none⟩) n c] w fun e w' => e = .returned (.tuple #[.int .i64 (n : Int), .nilIface]) ∧ ∃ fp', BuiltAt w' b (l ++ k) fp' ∧ Upd fp w w' ∧ Stays fp fp' w := by
  obtain ⟨p, v, hb, hp, hown, hne, hnil0, rfl⟩ := h
  have HNIL := Lib.hid hnil0
  clear hnil0
  obtain ⟨i0, hi, hz0, hz1, hz2⟩ := info_parts byte_info
  have hgb : g ≠ b := fun e => hg (.inl e)
  have HK := Lib.hid hk
  clear hk
  subst hn
  go_enter Tryz.func141, Tryz.ntmps141
  go_wp2_with fail
  refine (copyCheck_any b p v _ hb hp).mono ?_
  rintro e w1 ⟨rfl, hb1, hu1⟩
  have hblt : b < w.heap.size := (Array.getElem?_eq_some_iff.1 hb).1
  have hown1 : w1.ownsRow 0 5 1 v l.length (u8cells l) := ownsRow_upd hown hu1 (fun q hq e => hne (by rw [hq, e]))
  have c1 : w1.cell? ⟨b, 1, none⟩ = some v := by rw [Lib.cell_of_heap hb1]; rfl
  have hnews : ∀ j u, (u8cells k)[j]? = some u → w1.cell? ((⟨g, off, none⟩ : Addr).add j) = some u := by
    intro j u hj
    have hjl : j < k.length := by
      have := (List.getElem?_eq_some_iff.1 hj).1
      rwa [u8cells_length] at this
    have e : (⟨g, off, none⟩ : Addr).add j = ⟨g, off + j, none⟩ := by unfold Addr.add; split <;> simp_all
    have hc := HK.out j hjl
    rw [e, hu1.cell (p := ⟨g, off + j, none⟩) (block_lt_of_cell hc) hgb, hc]
    rw [u8cells_get k j hjl] at hj
    exact hj
  go_wp2_with (at_builtin; refine wpList_append_own_at _ rfl _ _ 49 rfl 0 5 i0 (.int .u8 0) 1 1 Tryz.underlying49 hi hz0 hz1 hz2 rfl (by decide) _ _ _ rfl hown1 ⟨g, off, none⟩ k.length c (u8cells k) rfl (by rw [u8cells_length, Nat.mul_one]) hnews (u8cells_one k) ?c3 ?c4 ?c5 ?_)
  case c3 => unfold maxLen; omega
  case c4 => omega
  case c5 => omega
  intro v' w2 hown' hgrow hnil hat
  have HN2 := Lib.hid hnil
  clear hnil
  have hb2 : w2.heap[b]? = some (.cells #[.pointer (some ⟨b, 0, none⟩), v] 194) := by
    rw [hgrow.block b (Nat.lt_of_lt_of_le hblt hu1.size) (fun e => hne e.symm)]
    exact hb1
  have d1 : w2.cell? ⟨b, 1, none⟩ = some v := by rw [Lib.cell_of_heap hb2]; rfl
  have f1 : w2.frozen? ⟨b, 1, none⟩ = false := Lib.frozen_of_heap hb2 1
  have hv' : v'.ownBlock ≠ some b := by
    rcases hat with hat | hat
    · rw [hat]; exact hne
    · rw [hat]; intro e; have := Option.some.inj e; have := hu1.size; omega
  have HN3 : Hid (l ++ k = [] → v' = .slice none 0 0) := Lib.hid (fun e => by
    obtain ⟨e1, e2⟩ := List.append_eq_nil_iff.1 e
    exact HN2.out.2 ⟨HNIL.out e1, e2⟩)
  obtain ⟨ao, n', cap, rfl⟩ : ∃ ao n' cap, v' = .slice ao n' cap := by
    rcases hown'.2 with ⟨hv, _⟩ | ⟨g, cap, cur, hv, _⟩
    · exact ⟨_, _, _, hv⟩
    · exact ⟨_, _, _, hv⟩
  clear c1 hnews
  go_wp2_with fail
  go_ret2
  have hu2 : Upd (fun k => k = b ∨ v.ownBlock = some k) w w2 := (hu1.mono (fun i e => Or.inl e)).trans (Upd.of_grownBy (F := fun k => k = b ∨ v.ownBlock = some k) hgrow (fun q e => .inr e)) (fun i e => .inl e)
  have hu3 := hu2.setCell (p := ⟨b, 1, none⟩) (.inl (.inl rfl)) (.slice ao n' cap)
  refine ⟨rfl, fun q => q = b ∨ (Value.slice ao n' cap).ownBlock = some q, ⟨some ⟨b, 0, none⟩, .slice ao n' cap, heap_setCell_same w2 b 1 _ _ _ hb2, .inr rfl, ?_, hv', HN3.out, rfl⟩, hu3, ?_⟩
  · rw [List.length_append, u8cells_append]
    exact ownsRow_upd hown' ((Upd.refl (fun q => q = b) w2).setCell (p := ⟨b, 1, none⟩) (.inl rfl) _) (fun q hq e => hv' (by rw [hq, e]))
  · rintro q (rfl | hq)
    · exact .inl (.inl rfl)
    · rcases hat with hat | hat
      · exact .inl (.inr (by rw [← hat]; exact hq))
      · rw [hat] at hq
        have := Option.some.inj hq
        exact .inr (by have := hu1.size; omega)

set_option maxRecDepth 100000 in
set_option maxHeartbeats 1000000 in
theorem bstring_any {w : World} {b : Nat} {l : List UInt8} {fp : Nat → Prop} (h : BuiltAt w b l fp) :
    Calls Tryz.prog 136 #[.pointer (some ⟨b, 0, none⟩)] w fun e w' => e = .returned (.string (bs l)) ∧ Upd fp w w' := by
  obtain ⟨p, v, hb, hp, hown, hne, hnil, rfl⟩ := h
  have hbd : w.drew.heap[b]? = some (.cells #[.pointer p, v] 194) := hb
  have c1 : w.drew.cell? ⟨b, 1, none⟩ = some v := by rw [Lib.cell_of_heap hbd]; rfl
  rcases hown.2 with ⟨rfl, h0⟩ | ⟨g, cap, cur, rfl, _, hg, hnc, hcm, hcs, htake⟩
  · obtain rfl : l = [] := by simpa using h0
    have hUS : (Builtin.unsafeString_ #[222, 3] 9 #[.pointer none, .int .i64 0]).run Tryz.prog w.drew = .ok (.string .empty) w.drew := Lib.run_unsafeString_none _ _ _ _ _
    have hSD : (Builtin.unsafeSliceData_ #[49] 222 #[.slice none 0 0]).run Tryz.prog w.drew = .ok (.pointer none) w.drew := rfl
    clear hp hne hown
    go_enter Tryz.func136, Tryz.ntmps136
    go_wp2_with fail
    go_region
    all_goals (go_wp2; go_ret; exact ⟨rfl, (Upd.refl _ _).drew⟩)
  · by_cases h0 : l = []
    · have := hnil h0
      simp at this
    · have hl0 : l.length ≠ 0 := by simpa using h0
      have hSD : (Builtin.unsafeSliceData_ #[49] 222 #[.slice (some ⟨g, 0, none⟩) l.length cap]).run Tryz.prog w.drew = .ok (.pointer (some ⟨g, 0, none⟩)) w.drew := Lib.run_unsafeSliceData_row _ _ _ _ _ _ (by omega)
      have hUS : (Builtin.unsafeString_ #[222, 3] 9 #[.pointer (some ⟨g, 0, none⟩), .int .i64 l.length]).run Tryz.prog w.drew = .ok (.string (bs l)) (w.drew.freeze ⟨g, 0, none⟩ l.length) := by
        refine Lib.run_unsafeString_row w.drew 222 3 9 5 Tryz.underlying222 (by kernel_rfl) g cur.size (by have hg' : w.drew.heap[g]? = some (.cells cur 5 (0, 0)) := hg; simp [World.shape?, hg']) l h0 (by omega) (by unfold maxLen at hcm; omega) ?_
        intro j x hx
        have hjl := (List.getElem?_eq_some_iff.1 hx).1
        have := hown.cells (g := g) rfl j (.int .u8 x.toNat) (by rw [u8cells_get l j hjl]; rw [List.getElem?_eq_getElem hjl] at hx; rw [Option.some.inj hx])
        exact this
      have hfz : Upd (fun k => k = b ∨ (Value.slice (some ⟨g, 0, none⟩) l.length cap).ownBlock = some k) w (w.drew.freeze ⟨g, 0, none⟩ l.length) := by
        refine ((Upd.refl _ w).drew).trans (G := fun k => k = g) ?_ (fun i e => .inl (.inr (by rw [e]; rfl)))
        unfold World.freeze
        split
        · exact Upd.refl _ _
        · refine ⟨rfl, rfl, rfl, by simp, fun k _ hF => ?_⟩
          simp only [Array.getElem?_modify]
          rw [if_neg (fun e => hF e.symm)]
      have HF := Lib.hid hfz
      clear hp hne hown hfz
      go_enter Tryz.func136, Tryz.ntmps136
      go_wp2_with fail
      go_region
      all_goals (go_wp2; go_ret; exact ⟨rfl, HF.out⟩)
end Go.Proofs.YtdmbadkpendfhaaGreatDoor
