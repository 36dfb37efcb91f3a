/- Changes in a row. maslin/files: made, group, ungroup, walked. -/
import Derived.Test.YtcljpnkknehlmaaGreatFilWalks
import Derived.Deep.Slices
import Derived.Maps.AppendAt
import Derived.Test.YtcljpnkknehlmaaGreatWalMore
namespace Go.Proofs.YtcljpnkknehlmaaGreat
open Go.RowKit Go.Maps
open Fil

/-- A change, where it lies. -/
structure ChgAt (w : World) (q : Addr) (c : Chg) : Prop where
  name : w.cell? (q.add 0) = some (.string (bs c.name))
  data : w.cell? (q.add 1) = some (.string (bs c.data))
  gone : w.cell? (q.add 2) = some (.bool c.gone)
theorem ChgAt.cells {w : World} {q : Addr} {c : Chg} (h : ChgAt w q c) : w.cell? q = some (.string (bs c.name)) ∧ w.cell? ⟨q.block, q.off + 1, none⟩ = some (.string (bs c.data)) ∧ w.cell? ⟨q.block, q.off + 2, none⟩ = some (.bool c.gone) := by
  have h1 := h.name
  rw [add_zero'] at h1
  exact ⟨h1, h.data, h.gone⟩
def ChgsAt (w : World) (a : Option Addr) (l : List Chg) : Prop := ∀ i, (h : i < l.length) → ∃ p : Addr, a = some p ∧ ChgAt w (p.add (i * 3)) l[i]
theorem ChgAt.upd {F : Nat → Prop} {w w' : World} {q : Addr} {c : Chg} (h : ChgAt w q c) (hu : Upd F w w') (hF : ¬ F q.block) : ChgAt w' q c := by
  have b : ∀ i, (q.add i).block = q.block := add_block q
  have hlt := block_lt_of_cell h.name
  exact ⟨(hu.cell hlt (by rw [b]; exact hF)).trans h.name, (hu.cell (by rw [b]; rw [b] at hlt; exact hlt) (by rw [b]; exact hF)).trans h.data, (hu.cell (by rw [b]; rw [b] at hlt; exact hlt) (by rw [b]; exact hF)).trans h.gone⟩
theorem ChgsAt.upd {F : Nat → Prop} {w w' : World} {a : Option Addr} {l : List Chg} (h : ChgsAt w a l) (hu : Upd F w w') (hF : ∀ p, a = some p → l ≠ [] → ¬ F p.block) : ChgsAt w' a l := fun i hi => by
  obtain ⟨p, hp, h1⟩ := h i hi
  exact ⟨p, hp, h1.upd hu (by rw [add_block]; exact hF p hp (by intro e; rw [e] at hi; simp at hi))⟩
theorem ChgAt.below {w w' : World} {q : Addr} {c : Chg} (h : ChgAt w q c) (hb : Below w.heap.size w w') : ChgAt w' q c := h.upd (Upd.of_below (F := fun _ => False) hb) (fun f => f)
theorem ChgsAt.below {w w' : World} {a : Option Addr} {l : List Chg} (h : ChgsAt w a l) (hb : Below w.heap.size w w') : ChgsAt w' a l := h.upd (Upd.of_below (F := fun _ => False) hb) (fun _ _ _ f => f)
theorem ChgsAt.index {w : World} {a : Option Addr} {l : List Chg} (h : ChgsAt w a l) (cap k : Nat) (hk : k < l.length) :
    ∃ q : Addr, (∀ W, (Instr.indexAt 22 (.slice a l.length cap) (.int .i64 (k : Int))).run Tryz.prog W = .ok (.pointer (some q)) W) ∧ ChgAt w q l[k] ∧ ∃ p : Addr, a = some p ∧ q.block = p.block := by
  obtain ⟨p, rfl, h1⟩ := h k hk
  exact ⟨_, fun W => run_index_slice Tryz.prog _ 35 Tryz.underlying22 3 (by kernel_rfl) p l.length cap k hk W, h1, p, rfl, add_block _ _⟩
/-- A block that a cell lies in is no map. -/
theorem ne_map {w : World} {p : Addr} {v : Value} (h : w.cell? p = some v) {m : Nat} {es : Array MapEntry} {c : Nat} (hm : w.heap[m]? = some (.map es c)) : p.block ≠ m := by
  intro e
  subst e
  unfold World.cell? at h
  rw [hm] at h
  simp at h
theorem on_length (F : M) (c : Chg) : (Chg.on F c).length ≤ F.length + 1 := by
  unfold Chg.on
  split
  · unfold del
    have := List.length_filter_le (fun p : T × T => !(p.1 == c.name)) F
    omega
  · unfold put
    rw [List.length_append, List.length_cons]
    have : (F.filter fun p => decide (p.1 < c.name)).length + (F.filter fun p => decide (c.name < p.1)).length ≤ F.length := by
      induction F with
      | nil => simp
      | cons p F ih =>
        by_cases h1 : p.1 < c.name
        · have h2 := lt_asym h1
          rw [List.filter_cons_of_pos (by simpa using h1), List.filter_cons_of_neg (by simpa using h2)]
          simp only [List.length_cons]; omega
        · rw [List.filter_cons_of_neg (by simpa using h1)]
          have := List.length_filter_le (fun q : T × T => decide (c.name < q.1)) (p :: F)
          by_cases h2 : c.name < p.1
          · rw [List.filter_cons_of_pos (by simpa using h2)]
            simp only [List.length_cons]; omega
          · rw [List.filter_cons_of_neg (by simpa using h2)]
            simp only [List.length_cons]; omega
    omega
theorem made_length (F : M) (l : List Chg) : (made F l).length ≤ F.length + l.length := by
  induction l generalizing F with
  | nil => exact Nat.le_refl _
  | cons c l ih =>
    have h1 := ih (Chg.on F c)
    have h2 := on_length F c
    show (made (Chg.on F c) l).length ≤ _
    rw [List.length_cons]
    omega
set_option maxRecDepth 100000 in
set_option maxHeartbeats 1000000 in
theorem fmade_any {w : World} {m : Nat} {F : M} {a : Option Addr} {cap : Nat} {l : List Chg} (hM : FilMap w m F) (hL : ChgsAt w a l) (hlen : l.length ≤ 1000000) (hF : F.length ≤ 1000000000000000) (hok : ∀ c ∈ l, c.name.length ≤ maxLen) :
    Calls Tryz.prog 22 #[.map (some m), .slice a l.length cap] w fun e w' => e = .returned (.tuple #[]) ∧ FilMap w' m (made F l) ∧ Upd (fun k => k = m) w w' := by
  have HM := Lib.hid hM; have HL := Lib.hid hL; have HOK := Lib.hid hok
  clear hM hL hok
  go_enter Tryz.func22, Tryz.ntmps22
  go_wp2_with fail
  go_loopw [8] (fun i wr => ∃ k : Nat, k ≤ l.length ∧ i = .int .i64 k ∧ FilMap wr m (made F (l.take k)) ∧ Upd (fun k => k = m) w wr) (fun i _ => l.length - (intOf i).toNat)
  case atStart => exact ⟨0, Nat.zero_le _, rfl, HM.out, Upd.refl _ _⟩
  case round =>
    obtain ⟨k, hk, rfl, hm, hu⟩ := hrel
    by_cases hlt : k < l.length
    · obtain ⟨q, hix, hq, -⟩ := HL.out.index cap k hlt
      obtain ⟨es, ck, hes⟩ := HM.out.is
      have hq2 := hq.upd hu (ne_map (hq.cells).1 hes)
      have hin := HOK.out _ (List.getElem_mem hlt)
      have HT := Lib.hid (show made F (l.take (k + 1)) = Chg.on (made F (l.take k)) l[k] by rw [List.take_succ_eq_append_getElem hlt, made_snoc])
      generalize l[k] = c at *
      obtain ⟨cn, cd, cg⟩ := c
      simp only at hin
      obtain ⟨c0, c1, c2⟩ := hq2.cells
      simp only at c0 c1 c2
      have hml := made_length F (l.take k)
      rw [List.length_take] at hml
      have hb : Below wr.heap.size wr (wr.alloc (.cells #[.string (bs cn), .string (bs cd), .bool cg] 35)) := (Below.refl _ _).alloc (Nat.le_refl _) _
      have hm2 := hm.below hb
      have HU := Lib.hid hu
      have HB := Lib.hid hb
      cases cg with
      | true =>
        have hd := fun ty => hm2.delete cn hin ty
        obtain ⟨w2, hd1, hd2, hd3⟩ := hd 0
        have HD2 := Lib.hid hd2; have HD3 := Lib.hid hd3
        clear hq hq2 hes hm hm2 hu hb hml hd2 hd3 hd
        go_wp2_with fail
        go_roundw
        case rel => exact ⟨k + 1, by omega, by go_num, by rw [HT.out]; exact HD2.out, (HU.out.trans (Upd.of_below (F := fun k => k = m) HB.out) (fun i hi => .inl hi)).trans (Upd.of_grownBy (F := fun k => k = m) HD3.out (fun k e => by cases e; rfl)) (fun i hi => .inl hi)⟩
        case measure => simp [intOf]; omega
      | false =>
        obtain ⟨w2, hd1, hd2, hd3⟩ := hm2.update cn cd hin (by unfold maxLen; omega)
        have HD2 := Lib.hid hd2; have HD3 := Lib.hid hd3
        clear hq hq2 hes hm hm2 hu hb hml hd2 hd3
        go_wp2_with fail
        go_roundw
        case rel => exact ⟨k + 1, by omega, by go_num, by rw [HT.out]; exact HD2.out, (HU.out.trans (Upd.of_below (F := fun k => k = m) HB.out) (fun i hi => .inl hi)).trans (Upd.of_grownBy (F := fun k => k = m) HD3.out (fun k e => by cases e; rfl)) (fun i hi => .inl hi)⟩
        case measure => simp [intOf]; omega
    · obtain rfl : k = l.length := by omega
      rw [List.take_length] at hm
      have HM2 := Lib.hid hm; have HU := Lib.hid hu
      clear hm hu
      go_wp2_with fail
      go_end0
      exact ⟨rfl, HM2.out, HU.out⟩
theorem cells_two_new (w : World) (x y : Value) (t : TypeId) : ∀ j u, [x, y][j]? = some u → (w.alloc (.cells #[x, y] t)).cell? ((⟨w.heap.size, 0, none⟩ : Addr).add j) = some u := by
  intro j u hj
  rw [add_plain, cell_new_row]
  match j, hj with
  | 0, hj => simpa using hj
  | 1, hj => simpa using hj
theorem group_take (l : List Chg) (k : Nat) (h : k < l.length) : group (l.take (k + 1)) = group (l.take k) ++ [flagB l[k].gone :: l[k].name, l[k].data] := by
  rw [List.take_succ_eq_append_getElem h, group_snoc]
set_option maxRecDepth 100000 in
set_option maxHeartbeats 1000000 in
theorem fgroup_any {w : World} {a : Option Addr} {cap : Nat} {l : List Chg} (hL : ChgsAt w a l) (hlen : l.length ≤ 1000000) (hok : ∀ c ∈ l, c.name.length ≤ 1000000) :
    Calls Tryz.prog 29 #[.slice a l.length cap] w fun e w' => ∃ q cap', e = .returned (.slice q (group l).length cap') ∧ w'.ownsRow w.heap.size 9 1 (.slice q (group l).length cap') (group l).length (strCells (group l)) ∧ Below w.heap.size w w' := by
  obtain ⟨i0, hi0, hz0, hz1, hz2⟩ := info_parts str_info3
  have HL := Lib.hid hL; have HOK := Lib.hid hok
  clear hL hok
  go_enter Tryz.func29, Tryz.ntmps29
  go_wp2_with fail
  go_loopw [2, 8] (fun s i wr => ∃ (k : Nat) (q : Option Addr) (c : Nat), k ≤ l.length ∧ i = .int .i64 k ∧ s = .slice q (2 * k) c ∧ wr.ownsRow w.heap.size 9 1 (.slice q (2 * k) c) (2 * k) (strCells (group (l.take k))) ∧ Below w.heap.size w wr) (fun _ i _ => l.length - (intOf i).toNat)
  case atStart => exact ⟨0, none, 0, Nat.zero_le _, rfl, rfl, by rw [List.take_zero]; show World.ownsRow _ _ _ _ _ 0 (strCells []); rw [strCells_nil]; exact World.ownsRow_nil _ _ _ _, Below.refl _ _⟩
  case round =>
    obtain ⟨k, q, c, hk, rfl, rfl, hrow, hb⟩ := hrel
    by_cases hlt : k < l.length
    · obtain ⟨qa, hix, hq, -⟩ := HL.out.index cap k hlt
      have hq2 := hq.below hb
      have hin := HOK.out _ (List.getElem_mem hlt)
      have HT := Lib.hid (group_take l k hlt)
      have h0 : ({ data := #[0] } : ByteArray) = bs [0] := rfl
      have h1 : ({ data := #[1] } : ByteArray) = bs [1] := rfl
      generalize l[k] = x at *
      obtain ⟨cn, cd, cg⟩ := x
      simp only at hin
      obtain ⟨c0, c1, c2⟩ := hq2.cells
      simp only at c0 c1 c2
      have hsz := hb.size
      have HR := Lib.hid hrow; have HB := Lib.hid hb
      clear hq hq2 hrow hb
      cases cg with
      | true =>
        go_wp2_with (at_builtin; refine wpList_append_own_at _ rfl _ _ 36 rfl w.heap.size 9 i0 _ 1 16 Tryz.underlying36 hi0 hz0 hz1 hz2 rfl (by decide) _ (2 * k) _ rfl ((HR.out.alloc _).alloc _) ⟨wr.heap.size + 1, 0, none⟩ 2 2 [.string (bs (1 :: cn)), .string (bs cd)] rfl rfl (by have h := cells_two_new (wr.alloc (.cells #[.string (bs cn), .string (bs cd), .bool true] 35)) (.string (bs (1 :: cn))) (.string (bs cd)) 9; rw [World.size_alloc] at h; exact h) (by simp [Value.oneCell']) (by unfold maxLen; omega) (by omega) (by simp; omega) ?_; intro v' w1 hown' hgrow _ hat; obtain ⟨g', cap', rfl⟩ := ownsRow_succ hown'; have HO := Lib.hid hown'; have HG := Lib.hid hgrow; clear hown' hgrow hat)
        go_roundw
        case rel =>
          refine ⟨k + 1, _, _, by omega, by go_num, rfl, ?_, ?_⟩
          · rw [HT.out]
            unfold flagB
            have e : strCells (group (l.take k) ++ [1 :: cn, cd]) = strCells (group (l.take k)) ++ [.string (bs (1 :: cn)), .string (bs cd)] := by
              rw [show group (l.take k) ++ [1 :: cn, cd] = (group (l.take k) ++ [1 :: cn]) ++ [cd] by simp, strCells_snoc, strCells_snoc, List.append_assoc]; rfl
            exact e ▸ HO.out
          · exact ((HB.out.alloc HB.out.size _).alloc (by simp; omega) _).grown HG.out (by simp; omega) (fun j hj => by
              have hj' : (Value.slice q (2 * k) c).ownBlock = some j := hj
              rcases HR.out.2 with ⟨e1, _⟩ | ⟨g, c2, cur, e1, hbase, _⟩
              · rw [e1] at hj'; simp [Value.ownBlock] at hj'
              · rw [e1] at hj'; simp [Value.ownBlock] at hj'; omega)
        case measure => simp [intOf]; omega
      | false =>
        go_wp2_with (at_builtin; refine wpList_append_own_at _ rfl _ _ 36 rfl w.heap.size 9 i0 _ 1 16 Tryz.underlying36 hi0 hz0 hz1 hz2 rfl (by decide) _ (2 * k) _ rfl ((HR.out.alloc _).alloc _) ⟨wr.heap.size + 1, 0, none⟩ 2 2 [.string (bs (0 :: cn)), .string (bs cd)] rfl rfl (by have h := cells_two_new (wr.alloc (.cells #[.string (bs cn), .string (bs cd), .bool false] 35)) (.string (bs (0 :: cn))) (.string (bs cd)) 9; rw [World.size_alloc] at h; exact h) (by simp [Value.oneCell']) (by unfold maxLen; omega) (by omega) (by simp; omega) ?_; intro v' w1 hown' hgrow _ hat; obtain ⟨g', cap', rfl⟩ := ownsRow_succ hown'; have HO := Lib.hid hown'; have HG := Lib.hid hgrow; clear hown' hgrow hat)
        go_roundw
        case rel =>
          refine ⟨k + 1, _, _, by omega, by go_num, rfl, ?_, ?_⟩
          · rw [HT.out]
            unfold flagB
            have e : strCells (group (l.take k) ++ [0 :: cn, cd]) = strCells (group (l.take k)) ++ [.string (bs (0 :: cn)), .string (bs cd)] := by
              rw [show group (l.take k) ++ [0 :: cn, cd] = (group (l.take k) ++ [0 :: cn]) ++ [cd] by simp, strCells_snoc, strCells_snoc, List.append_assoc]; rfl
            exact e ▸ HO.out
          · exact ((HB.out.alloc HB.out.size _).alloc (by simp; omega) _).grown HG.out (by simp; omega) (fun j hj => by
              have hj' : (Value.slice q (2 * k) c).ownBlock = some j := hj
              rcases HR.out.2 with ⟨e1, _⟩ | ⟨g, c2, cur, e1, hbase, _⟩
              · rw [e1] at hj'; simp [Value.ownBlock] at hj'
              · rw [e1] at hj'; simp [Value.ownBlock] at hj'; omega)
        case measure => simp [intOf]; omega
    · obtain rfl : k = l.length := by omega
      rw [List.take_length] at hrow
      have hgl := group_length l
      rw [← hgl] at hrow ⊢
      have HR := Lib.hid hrow; have HB := Lib.hid hb
      clear hrow hb hgl
      go_wp2_with fail
      go_ret
      exact ⟨_, _, rfl, HR.out, HB.out⟩
end Go.Proofs.YtcljpnkknehlmaaGreat
