/- maslin/files: ungroup, walked. -/
import Derived.Test.YtcljpnkknehlmaaGreatFilMade
import Derived.Deep.AppendLies
import Derived.Deep.RegionLaw
namespace Go.Proofs.YtcljpnkknehlmaaGreat
open Go.RowKit Go.Maps
open Fil

theorem ungroup_odd : ∀ (n : Nat) (l : List T), l.length ≤ n → l.length % 2 = 1 → ungroup l = none := by
  intro n
  induction n with
  | zero => intro l hn h; omega
  | succ n ih =>
    intro l hn h
    match l, h with
    | [_], _ => rfl
    | [] :: _ :: _, _ => rfl
    | (b :: k) :: d :: l, h =>
      simp only [ungroup]
      split
      · rw [ih l (by simp at hn; omega) (by simp at h; omega)]; rfl
      · rfl
theorem ungroup_yes {l R : List T} {cs : List Chg} {b : UInt8} {n d : T} (h : ungroup l = (ungroup ((b :: n) :: d :: R)).map (cs ++ ·)) (hb : b.toNat ≤ 1) (hm : Chg.may ⟨n, d, b == 1⟩ = true) : ungroup l = (ungroup R).map ((cs ++ [⟨n, d, b == 1⟩]) ++ ·) := by
  rw [h]
  simp only [ungroup]
  rw [if_pos ⟨hb, hm⟩, Option.map_map]
  congr 1
  funext q
  simp
theorem ungroup_no {l R : List T} {cs : List Chg} {b : UInt8} {n d : T} (h : ungroup l = (ungroup ((b :: n) :: d :: R)).map (cs ++ ·)) (hb : ¬ (b.toNat ≤ 1 ∧ Chg.may ⟨n, d, b == 1⟩ = true)) : ungroup l = none := by
  rw [h]
  simp only [ungroup]
  rw [if_neg hb]
  rfl
theorem ungroup_nil {l R : List T} {cs : List Chg} {d : T} (h : ungroup l = (ungroup ([] :: d :: R)).map (cs ++ ·)) : ungroup l = none := by
  rw [h]; rfl
/-- The cells of changes. -/
@[irreducible] def chgCells (l : List Chg) : List Value := l.flatMap fun c => [.string (bs c.name), .string (bs c.data), .bool c.gone]
theorem chgCells_nil : chgCells [] = [] := by unfold chgCells; rfl
theorem chgCells_snoc (l : List Chg) (c : Chg) : chgCells (l ++ [c]) = chgCells l ++ [.string (bs c.name), .string (bs c.data), .bool c.gone] := by unfold chgCells; simp
theorem chgCells_get (l : List Chg) (k : Nat) (hk : k < l.length) (j : Nat) (hj : j < 3) : (chgCells l)[k * 3 + j]? = ([.string (bs l[k].name), .string (bs l[k].data), .bool l[k].gone] : List Value)[j]? := by
  unfold chgCells
  induction l generalizing k with
  | nil => simp at hk
  | cons c l ih =>
    rw [List.flatMap_cons]
    cases k with
    | zero =>
      rw [Nat.zero_mul, Nat.zero_add, List.getElem?_append_left (by simp; omega)]
      rfl
    | succ k =>
      rw [List.getElem?_append_right (by simp; omega), show (k + 1) * 3 + j - ([Value.string (bs c.name), .string (bs c.data), .bool c.gone] : List Value).length = k * 3 + j by simp; omega]
      exact ih k (by simpa using hk)
/-- A row of changes of one's own. -/
theorem ChgsAt.of_row {w : World} {base : Nat} {q : Option Addr} {c : Nat} {l : List Chg} (h : w.ownsRow base 35 3 (.slice q l.length c) l.length (chgCells l)) : ChgsAt w q l := fun i hi => by
  rcases h.2 with ⟨e1, e2⟩ | ⟨g, cap, cur, e1, _⟩
  · omega
  · have e2 : q = some ⟨g, 0, none⟩ := by injection e1
    subst e2
    have hc : ∀ j, j < 3 → ∀ v, ([.string (bs l[i].name), .string (bs l[i].data), .bool l[i].gone] : List Value)[j]? = some v → w.cell? (((⟨g, 0, none⟩ : Addr).add (i * 3)).add j) = some v := fun j hj v hv => by
      rw [← chgCells_get l i hi j hj] at hv
      have := h.cells (g := g) rfl _ _ hv
      rw [add_plain] at this ⊢
      rw [add_off]
      exact this
    exact ⟨_, rfl, hc 0 (by omega) _ rfl, hc 1 (by omega) _ rfl, hc 2 (by omega) _ rfl⟩
theorem chg_info3 : (Tryz.prog.info? 35).map (fun i => (i.zero, i.size, i.bytes)) = some (some (.agg #[.string ByteArray.empty, .string ByteArray.empty, .bool false]), 3, 40) := by kernel_rfl
def UngroupPost (w : World) (l : List T) (e : Ending) (w' : World) : Prop :=
  match ungroup l with
  | none => e = .returned (.tuple #[.slice none 0 0, .bool false]) ∧ Below w.heap.size w w'
  | some cs => ∃ q c, e = .returned (.tuple #[.slice q cs.length c, .bool true]) ∧ w'.ownsRow w.heap.size 35 3 (.slice q cs.length c) cs.length (chgCells cs) ∧ Below w.heap.size w w'
theorem ungroupPost_none {w w' : World} {l : List T} {e : Ending} (h : ungroup l = none) (he : e = .returned (.tuple #[.slice none 0 0, .bool false])) (hb : Below w.heap.size w w') : UngroupPost w l e w' := by
  unfold UngroupPost; rw [h]; exact ⟨he, hb⟩
theorem ungroupPost_some {w w' : World} {l : List T} {e : Ending} {cs : List Chg} {q : Option Addr} {c : Nat} (h : ungroup l = some cs) (he : e = .returned (.tuple #[.slice q cs.length c, .bool true])) (ho : w'.ownsRow w.heap.size 35 3 (.slice q cs.length c) cs.length (chgCells cs)) (hb : Below w.heap.size w w') : UngroupPost w l e w' := by
  unfold UngroupPost; rw [h]; exact ⟨q, c, he, ho, hb⟩
set_option maxRecDepth 100000 in
set_option maxHeartbeats 2000000 in
theorem fungroup_any {w : World} {a : Option Addr} {cap : Nat} {l : List T} (hL : TextsAt w a l) (hlen : l.length ≤ 1000000) (hok : ∀ s ∈ l, s.length ≤ 1000000000) :
    Calls Tryz.prog 21 #[.slice a l.length cap] w fun e w' => UngroupPost w l e w' := by
  have HL := Lib.hid hL; have HOK := Lib.hid hok
  clear hL hok
  by_cases hodd : l.length % 2 = 1
  · have HN := Lib.hid (ungroup_odd _ l (Nat.le_refl _) hodd)
    have h1 : (l.length : Int) % 2 = 1 := by omega
    clear hodd
    go_enter Tryz.func21, Tryz.ntmps21
    go_wp2_with fail
    go_ret2
    exact ungroupPost_none HN.out rfl (Below.refl _ _)
  · obtain ⟨n, hn⟩ : ∃ n, l.length = 2 * n := ⟨l.length / 2, by omega⟩
    have h1 : (l.length : Int) % 2 = 0 := by omega
    clear hodd
    obtain ⟨i0, hi0, hz0, hz1, hz2⟩ := info_parts chg_info3
    have HNN := Lib.hid hn
    clear hn
    go_enter Tryz.func21, Tryz.ntmps21
    go_wp2_with fail
    clear h1
    go_loopw [2, 4] (fun s i wr => ∃ (k : Nat) (cs : List Chg) (q : Option Addr) (c : Nat), k ≤ n ∧ cs.length = k ∧ i = .int .i64 (2 * (k : Int)) ∧ s = .slice q cs.length c ∧ wr.ownsRow w.heap.size 35 3 (.slice q cs.length c) cs.length (chgCells cs) ∧ Below w.heap.size w wr ∧ ungroup l = (ungroup (l.drop (2 * k))).map (cs ++ ·)) (fun _ i _ => l.length - (intOf i).toNat)
    case atStart => exact ⟨0, [], none, 0, Nat.zero_le _, rfl, rfl, rfl, by rw [chgCells_nil]; exact World.ownsRow_nil _ _ _ _, Below.refl _ _, by rw [List.drop_zero]; cases ungroup l <;> rfl⟩
    case round =>
      obtain ⟨k, cs, q, c, hk, hcl, rfl, rfl, hrow, hb, hug⟩ := hrel
      by_cases hlt : k < n
      · have hnn := HNN.out
        have hk1 : 2 * k < l.length := by omega
        have hk2 : 2 * k + 1 < l.length := by omega
        obtain ⟨p, hp, hs1⟩ := HL.out (2 * k) hk1
        obtain ⟨p', hp', hs2⟩ := HL.out (2 * k + 1) hk2
        obtain rfl : p = p' := by rw [hp] at hp'; exact Option.some.inj hp'
        have hd : l.drop (2 * k) = l[2 * k] :: l[2 * k + 1] :: l.drop (2 * (k + 1)) := by
          rw [List.drop_eq_getElem_cons hk1, List.drop_eq_getElem_cons hk2]; rfl
        rw [hd] at hug
        clear hd
        have hix1 : ∀ W, (Instr.indexAt 36 (.slice (some p) l.length cap) (.int .i64 (2 * (k : Int)))).run Tryz.prog W = .ok (.pointer (some (p.add (2 * k)))) W := fun W => by
          have := run_index_slice Tryz.prog 36 9 Tryz.underlying36 1 (by kernel_rfl) p l.length cap (2 * k) hk1 W
          rw [Nat.mul_one, show ((2 * k : Nat) : Int) = 2 * (k : Int) by omega] at this
          exact this
        have hix2 : ∀ W, (Instr.indexAt 36 (.slice (some p) l.length cap) (.int .i64 (2 * (k : Int) + 1))).run Tryz.prog W = .ok (.pointer (some (p.add (2 * k + 1)))) W := fun W => by
          have := run_index_slice Tryz.prog 36 9 Tryz.underlying36 1 (by kernel_rfl) p l.length cap (2 * k + 1) hk2 W
          rw [Nat.mul_one, show ((2 * k + 1 : Nat) : Int) = 2 * (k : Int) + 1 by omega] at this
          exact this
        have ho1 := HOK.out _ (List.getElem_mem hk1)
        have ho2 := HOK.out _ (List.getElem_mem hk2)
        subst hp
        have hs1b := (hb.cell (block_lt_of_cell hs1)).trans hs1
        have hs2b := (hb.cell (block_lt_of_cell hs2)).trans hs2
        have hs1c : ∀ o, (wr.alloc o).cell? (p.add (2 * k)) = some (.string (bs l[2 * k])) := fun o => (((Below.refl _ wr).alloc (Nat.le_refl _) o).cell (block_lt_of_cell hs1b)).trans hs1b
        have hs2c : ∀ o, (wr.alloc o).cell? (p.add (2 * k + 1)) = some (.string (bs l[2 * k + 1])) := fun o => (((Below.refl _ wr).alloc (Nat.le_refl _) o).cell (block_lt_of_cell hs2b)).trans hs2b
        have HR := Lib.hid hrow; have HB := Lib.hid hb; have HCL := Lib.hid hcl
        have hszb := hb.size
        clear HL
        generalize p.add (2 * k) = q1 at *
        generalize p.add (2 * k + 1) = q2 at *
        generalize l[2 * k] = s1 at *
        generalize l[2 * k + 1] = s2 at *
        obtain ⟨R, hR⟩ : ∃ R, l.drop (2 * (k + 1)) = R := ⟨_, rfl⟩
        rw [hR] at hug
        have HRE := Lib.hid hR
        clear hR
        clear hrow hb hs1 hs2 hp' hcl
        cases s1 with
        | nil =>
          have HN := Lib.hid (ungroup_nil hug)
          clear hug hnn
          go_wp2_with fail
          go_ret2
          exact ungroupPost_none HN.out rfl HB.out
        | cons b nm =>
          by_cases hb1 : b.toNat ≤ 1
          · rcases (show b = 0 ∨ b = 1 by
              have h1 := UInt8.toNat_lt b
              rcases (show b.toNat = 0 ∨ b.toNat = 1 by omega) with h | h
              · exact .inl (UInt8.toNat_inj.1 h)
              · exact .inr (UInt8.toNat_inj.1 h)) with rfl | rfl
            all_goals clear hb1 hnn
            · have hcf : ∀ W, (Instr.slice 9 (.string (bs (0 :: nm))) (some (.int .i64 1)) none none).run Tryz.prog W = .ok (.string (bs nm)) W := fun W => run_cut_from Tryz.prog W 9 Tryz.underlying9 (0 :: nm) 1 (by simp)
              have hnl : nm.length ≤ 1000000000 := by simp at ho1; omega
              have HNL := Lib.hid hnl
              have HUG := Lib.hid hug
              have e0 : (0 : Nat) < (0 :: nm).length := by simp
              clear hug ho1
              go_wp2_with fail
              go_region
              all_goals
                have HBW := Lib.hid (show Below wr.heap.size wr (wr.alloc (.cells #[.string (bs nm), .string (bs s2), .bool false] 35)).drew from ((Below.refl _ _).alloc (Nat.le_refl _) _).drew)
                have d0 : ((wr.alloc (.cells #[.string (bs nm), .string (bs s2), .bool false] 35)).drew).cell? ⟨wr.heap.size, 0, none⟩ = some (.string (bs nm)) := by simp
                have d1 : ((wr.alloc (.cells #[.string (bs nm), .string (bs s2), .bool false] 35)).drew).cell? ⟨wr.heap.size, 1, none⟩ = some (.string (bs s2)) := by simp
                have d2 : ((wr.alloc (.cells #[.string (bs nm), .string (bs s2), .bool false] 35)).drew).cell? ⟨wr.heap.size, 2, none⟩ = some (.bool false) := by simp
                have HSW := Lib.hid (show ((wr.alloc (.cells #[.string (bs nm), .string (bs s2), .bool false] 35)).drew).heap.size = wr.heap.size + 1 by simp)
                clear hs1b hs1c hs2b hs2c
                generalize (wr.alloc (.cells #[.string (bs nm), .string (bs s2), .bool false] 35)).drew = W1 at *
                go_wp2_with fail
                refine (fmay_any nm s2 false _ (by have := HNL.out; unfold maxLen; omega) (by unfold maxLen; omega)).mono ?_
                rintro e w2 ⟨rfl, hb2⟩
                have hlt1 : wr.heap.size < W1.heap.size := by have := HSW.out; omega
                have f0 := (hb2.cell (p := ⟨wr.heap.size, 0, none⟩) hlt1).trans d0
                have f1 := (hb2.cell (p := ⟨wr.heap.size, 1, none⟩) hlt1).trans d1
                have f2 := (hb2.cell (p := ⟨wr.heap.size, 2, none⟩) hlt1).trans d2
                have HB2 := Lib.hid (HBW.out.trans (hb2.mono HBW.out.size))
                clear d0 d1 d2 hb2 hlt1
                obtain ⟨mv, hmv⟩ : ∃ mv, Chg.may ⟨nm, s2, false⟩ = mv := ⟨_, rfl⟩
                have HMV := Lib.hid hmv
                rw [hmv]
                clear hmv
                cases mv with
                | false =>
                  have HN := Lib.hid (ungroup_no HUG.out (fun h => by have h2 := h.2; rw [show ((0 : UInt8) == 1) = false from rfl, HMV.out] at h2; cases h2))
                  go_wp2_with fail
                  go_ret2
                  exact ungroupPost_none HN.out rfl (HB.out.trans (HB2.out.mono HB.out.size))
                | true =>
                  have HY := Lib.hid (ungroup_yes HUG.out (by decide) (by rw [show ((0 : UInt8) == 1) = false from rfl]; exact HMV.out))
                  have hsz2 := HB2.out.size
                  have hwz : w.heap.size ≤ w2.heap.size := Nat.le_trans hszb hsz2
                  have hcl2 : cs.length ≤ 1000000 := by have := HCL.out; omega
                  have HR2 := Lib.hid (ownsRow_upd HR.out (Upd.of_below (F := fun _ => False) HB2.out) (fun _ _ f => f))
                  go_wp2_with (at_builtin; refine wpList_append_own_at _ rfl _ _ 22 rfl w.heap.size 35 i0 _ 3 40 Tryz.underlying22 hi0 hz0 hz1 hz2 rfl (by decide) _ cs.length _ rfl (HR2.out.alloc _) ⟨w2.heap.size, 0, none⟩ 1 1 [.string (bs nm), .string (bs s2), .bool false] rfl rfl (by intro j u hj; rw [add_plain, cell_new_row]; exact (Array.getElem?_toList ▸ hj)) (by simp [Value.oneCell']) (by unfold maxLen; omega) (by omega) (by simp; omega) ?_; intro v' w1 hown' hgrow _ hat; obtain ⟨g', cap', rfl⟩ := ownsRow_succ hown'; have HO := Lib.hid hown'; have HG := Lib.hid hgrow; clear hown' hgrow hat)
                  go_roundw
                  case rel =>
                      refine ⟨k + 1, cs ++ [⟨nm, s2, false⟩], _, _, by omega, by rw [List.length_append, HCL.out]; rfl, by go_num, by rw [List.length_append]; rfl, ?_, ?_, by rw [HRE.out]; exact HY.out⟩
                      · rw [List.length_append, chgCells_snoc]; exact HO.out
                      · exact ((HB.out.trans (HB2.out.mono HB.out.size)).alloc hwz _).grown HG.out (by simp; omega) (fun j hj => by
                          have hj' : (Value.slice q cs.length c).ownBlock = some j := hj
                          rcases HR.out.2 with ⟨e1, _⟩ | ⟨g, c2, cur, e1, hbase, _⟩
                          · rw [e1] at hj'; simp [Value.ownBlock] at hj'
                          · rw [e1] at hj'; simp [Value.ownBlock] at hj'; omega)
                  case measure => simp [intOf]; omega
            · have hcf : ∀ W, (Instr.slice 9 (.string (bs (1 :: nm))) (some (.int .i64 1)) none none).run Tryz.prog W = .ok (.string (bs nm)) W := fun W => run_cut_from Tryz.prog W 9 Tryz.underlying9 (1 :: nm) 1 (by simp)
              have hnl : nm.length ≤ 1000000000 := by simp at ho1; omega
              have HNL := Lib.hid hnl
              have HUG := Lib.hid hug
              have e0 : (0 : Nat) < (1 :: nm).length := by simp
              clear hug ho1
              go_wp2_with fail
              go_region
              all_goals
                have HBW := Lib.hid (show Below wr.heap.size wr (wr.alloc (.cells #[.string (bs nm), .string (bs s2), .bool true] 35)).drew from ((Below.refl _ _).alloc (Nat.le_refl _) _).drew)
                have d0 : ((wr.alloc (.cells #[.string (bs nm), .string (bs s2), .bool true] 35)).drew).cell? ⟨wr.heap.size, 0, none⟩ = some (.string (bs nm)) := by simp
                have d1 : ((wr.alloc (.cells #[.string (bs nm), .string (bs s2), .bool true] 35)).drew).cell? ⟨wr.heap.size, 1, none⟩ = some (.string (bs s2)) := by simp
                have d2 : ((wr.alloc (.cells #[.string (bs nm), .string (bs s2), .bool true] 35)).drew).cell? ⟨wr.heap.size, 2, none⟩ = some (.bool true) := by simp
                have HSW := Lib.hid (show ((wr.alloc (.cells #[.string (bs nm), .string (bs s2), .bool true] 35)).drew).heap.size = wr.heap.size + 1 by simp)
                clear hs1b hs1c hs2b hs2c
                generalize (wr.alloc (.cells #[.string (bs nm), .string (bs s2), .bool true] 35)).drew = W1 at *
                go_wp2_with fail
                refine (fmay_any nm s2 true _ (by have := HNL.out; unfold maxLen; omega) (by unfold maxLen; omega)).mono ?_
                rintro e w2 ⟨rfl, hb2⟩
                have hlt1 : wr.heap.size < W1.heap.size := by have := HSW.out; omega
                have f0 := (hb2.cell (p := ⟨wr.heap.size, 0, none⟩) hlt1).trans d0
                have f1 := (hb2.cell (p := ⟨wr.heap.size, 1, none⟩) hlt1).trans d1
                have f2 := (hb2.cell (p := ⟨wr.heap.size, 2, none⟩) hlt1).trans d2
                have HB2 := Lib.hid (HBW.out.trans (hb2.mono HBW.out.size))
                clear d0 d1 d2 hb2 hlt1
                obtain ⟨mv, hmv⟩ : ∃ mv, Chg.may ⟨nm, s2, true⟩ = mv := ⟨_, rfl⟩
                have HMV := Lib.hid hmv
                rw [hmv]
                clear hmv
                cases mv with
                | false =>
                  have HN := Lib.hid (ungroup_no HUG.out (fun h => by have h2 := h.2; rw [show ((1 : UInt8) == 1) = true from rfl, HMV.out] at h2; cases h2))
                  go_wp2_with fail
                  go_ret2
                  exact ungroupPost_none HN.out rfl (HB.out.trans (HB2.out.mono HB.out.size))
                | true =>
                  have HY := Lib.hid (ungroup_yes HUG.out (by decide) (by rw [show ((1 : UInt8) == 1) = true from rfl]; exact HMV.out))
                  have hsz2 := HB2.out.size
                  have hwz : w.heap.size ≤ w2.heap.size := Nat.le_trans hszb hsz2
                  have hcl2 : cs.length ≤ 1000000 := by have := HCL.out; omega
                  have HR2 := Lib.hid (ownsRow_upd HR.out (Upd.of_below (F := fun _ => False) HB2.out) (fun _ _ f => f))
                  go_wp2_with (at_builtin; refine wpList_append_own_at _ rfl _ _ 22 rfl w.heap.size 35 i0 _ 3 40 Tryz.underlying22 hi0 hz0 hz1 hz2 rfl (by decide) _ cs.length _ rfl (HR2.out.alloc _) ⟨w2.heap.size, 0, none⟩ 1 1 [.string (bs nm), .string (bs s2), .bool true] rfl rfl (by intro j u hj; rw [add_plain, cell_new_row]; exact (Array.getElem?_toList ▸ hj)) (by simp [Value.oneCell']) (by unfold maxLen; omega) (by omega) (by simp; omega) ?_; intro v' w1 hown' hgrow _ hat; obtain ⟨g', cap', rfl⟩ := ownsRow_succ hown'; have HO := Lib.hid hown'; have HG := Lib.hid hgrow; clear hown' hgrow hat)
                  go_roundw
                  case rel =>
                      refine ⟨k + 1, cs ++ [⟨nm, s2, true⟩], _, _, by omega, by rw [List.length_append, HCL.out]; rfl, by go_num, by rw [List.length_append]; rfl, ?_, ?_, by rw [HRE.out]; exact HY.out⟩
                      · rw [List.length_append, chgCells_snoc]; exact HO.out
                      · exact ((HB.out.trans (HB2.out.mono HB.out.size)).alloc hwz _).grown HG.out (by simp; omega) (fun j hj => by
                          have hj' : (Value.slice q cs.length c).ownBlock = some j := hj
                          rcases HR.out.2 with ⟨e1, _⟩ | ⟨g, c2, cur, e1, hbase, _⟩
                          · rw [e1] at hj'; simp [Value.ownBlock] at hj'
                          · rw [e1] at hj'; simp [Value.ownBlock] at hj'; omega)
                  case measure => simp [intOf]; omega
          · have HN := Lib.hid (ungroup_no hug (fun h => hb1 h.1))
            have hbi : (1 : Int) < (b.toNat : Int) := by omega
            clear hug hnn hb1
            go_wp2_with fail
            go_ret2
            exact ungroupPost_none HN.out rfl HB.out
      · obtain rfl : k = n := by omega
        have hnn := HNN.out
        rw [List.drop_of_length_le (by omega)] at hug
        have HUG := Lib.hid (show ungroup l = some cs by rw [hug]; simp [ungroup])
        have HR := Lib.hid hrow; have HB := Lib.hid hb
        clear hrow hb hug
        go_wp2_with fail
        go_ret2
        exact ungroupPost_some HUG.out rfl HR.out HB.out
end Go.Proofs.YtcljpnkknehlmaaGreat
