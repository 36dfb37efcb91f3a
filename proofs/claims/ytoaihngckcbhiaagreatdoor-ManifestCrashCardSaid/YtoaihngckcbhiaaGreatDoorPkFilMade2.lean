/- FilMade2 -/
import Derived.Test.YtoaihngckcbhiaaGreatDoorPkFilRep2
import Derived.Deep.Slices
import Derived.Maps.AppendAt
import Derived.Test.YtoaihngckcbhiaaGreatDoorPkWalOpen2
import Derived.Deep.AppendLies
import Derived.Deep.RegionLaw
namespace Go.Proofs.YtoaihngckcbhiaaGreatDoor
open Go.RowKit Go.Maps
open Fil
structure ChgAt (w : World) (q : Addr) (c : Chg) : Prop where
  name : w.cell? (q.add 0) = some (.string (bs c.name))
  data : w.cell? (q.add 1) = some (.string (bs c.data))
  gone : w.cell? (q.add 2) = some (.bool c.gone)
theorem ChgAt.cells {w : World} {q : Addr} {c : Chg} (h : ChgAt w q c) : w.cell? q = some (.string (bs c.name)) ∧ w.cell? ⟨q.block, q.off + 1, none⟩ = some (.string (bs c.data)) ∧ w.cell? ⟨q.block, q.off + 2, none⟩ = some (.bool c.gone) := by
  have h1 := h.name
  rw [add_zero'] at h1
  exact ⟨h1, h.data, h.gone⟩
def ChgsAt (w : World) (a : Option Addr) (l : List Chg) : Prop := ∀ i, (h : i < l.length) → ∃ p : Addr, a = some p ∧ ChgAt w (p.add (i * 3)) l[i]
theorem ChgAt.upd {F : Nat → Prop} {w w' : World} {q : Addr} {c : Chg} (h : ChgAt w q c) (hu : Upd F w w') (hF : ¬ F q.block) : ChgAt w' q c := by
  have b : ∀ i, (q.add i).block = q.block := add_block q
  have hlt := block_lt_of_cell h.name
  exact ⟨(hu.cell hlt (by rw [b]; exact hF)).trans h.name, (hu.cell (by rw [b]; rw [b] at hlt; exact hlt) (by rw [b]; exact hF)).trans h.data, (hu.cell (by rw [b]; rw [b] at hlt; exact hlt) (by rw [b]; exact hF)).trans h.gone⟩
theorem ChgsAt.upd {F : Nat → Prop} {w w' : World} {a : Option Addr} {l : List Chg} (h : ChgsAt w a l) (hu : Upd F w w') (hF : ∀ p, a = some p → l ≠ [] → ¬ F p.block) : ChgsAt w' a l := fun i hi => by
  obtain ⟨p, hp, h1⟩ := h i hi
  exact ⟨p, hp, h1.upd hu (by rw [add_block]; exact hF p hp (by intro e; rw [e] at hi; simp at hi))⟩
theorem ChgAt.below {w w' : World} {q : Addr} {c : Chg} (h : ChgAt w q c) (hb : Below w.heap.size w w') : ChgAt w' q c := h.upd (Upd.of_below (F := fun _ => False) hb) (fun f => f)
theorem ChgsAt.below {w w' : World} {a : Option Addr} {l : List Chg} (h : ChgsAt w a l) (hb : Below w.heap.size w w') : ChgsAt w' a l := h.upd (Upd.of_below (F := fun _ => False) hb) (fun _ _ _ f => f)
theorem ChgsAt.index {w : World} {a : Option Addr} {l : List Chg} (h : ChgsAt w a l) (cap k : Nat) (hk : k < l.length) :
    ∃ q : Addr, (∀ W, (Instr.indexAt 85 (.slice a l.length cap) (.int .i64 (k : Int))).run Tryz.prog W = .ok (.pointer (some q)) W) ∧ ChgAt w q l[k] ∧ ∃ p : Addr, a = some p ∧ q.block = p.block := by
  obtain ⟨p, rfl, h1⟩ := h k hk
  exact ⟨_, fun W => run_index_slice Tryz.prog _ 99 Tryz.underlying85 3 (by kernel_rfl) p l.length cap k hk W, h1, p, rfl, add_block _ _⟩
theorem ne_map {w : World} {p : Addr} {v : Value} (h : w.cell? p = some v) {m : Nat} {es : Array MapEntry} {c : Nat} (hm : w.heap[m]? = some (.map es c)) : p.block ≠ m := by
  intro e
  subst e
  unfold World.cell? at h
  rw [hm] at h
  simp at h
theorem on_length (F : M) (c : Chg) : (Chg.on F c).length ≤ F.length + 1 := by
  unfold Chg.on
  split
  · unfold del
    have := List.length_filter_le (fun p : T × T => !(p.1 == c.name)) F
    omega
  · unfold put
    rw [List.length_append, List.length_cons]
    have : (F.filter fun p => decide (p.1 < c.name)).length + (F.filter fun p => decide (c.name < p.1)).length ≤ F.length := by
      induction F with
      | nil => simp
      | cons p F ih =>
        by_cases h1 : p.1 < c.name
        · have h2 := lt_asym h1
          rw [List.filter_cons_of_pos (by simpa using h1), List.filter_cons_of_neg (by simpa using h2)]
          simp only [List.length_cons]; omega
        · rw [List.filter_cons_of_neg (by simpa using h1)]
          have := List.length_filter_le (fun q : T × T => decide (c.name < q.1)) (p :: F)
          by_cases h2 : c.name < p.1
          · rw [List.filter_cons_of_pos (by simpa using h2)]
            simp only [List.length_cons]; omega
          · rw [List.filter_cons_of_neg (by simpa using h2)]
            simp only [List.length_cons]; omega
    omega
theorem made_length (F : M) (l : List Chg) : (made F l).length ≤ F.length + l.length := by
  induction l generalizing F with
  | nil => exact Nat.le_refl _
  | cons c l ih =>
    have h1 := ih (Chg.on F c)
    have h2 := on_length F c
    show (made (Chg.on F c) l).length ≤ _
    rw [List.length_cons]
    omega
set_option maxRecDepth 100000 in
set_option maxHeartbeats 1000000 in
theorem fmade_any {w : World} {m : Nat} {F : M} {a : Option Addr} {cap : Nat} {l : List Chg} (hM : FilMap w m F) (hL : ChgsAt w a l) (hlen : l.length ≤ 1000000) (hF : F.length ≤ 1000000000000000) (hok : ∀ c ∈ l, c.name.length ≤ maxLen) :
    Calls Tryz.prog 32 #[.map (some m), .slice a l.length cap] w fun e w' => e = .returned (.tuple #[]) ∧ FilMap w' m (made F l) ∧ Upd (fun k => k = m) w w' := by
  have HM := Lib.hid hM; have HL := Lib.hid hL; have HOK := Lib.hid hok
  clear hM hL hok
  go_enter Tryz.func32, Tryz.ntmps32
  go_wp2_with fail
  go_loopw [8] (fun i wr => ∃ k : Nat, k ≤ l.length ∧ i = .int .i64 k ∧ FilMap wr m (made F (l.take k)) ∧ Upd (fun k => k = m) w wr) (fun i _ => l.length - (intOf i).toNat)
  case atStart => exact ⟨0, Nat.zero_le _, rfl, HM.out, Upd.refl _ _⟩
  case round =>
    obtain ⟨k, hk, rfl, hm, hu⟩ := hrel
    by_cases hlt : k < l.length
    · obtain ⟨q, hix, hq, -⟩ := HL.out.index cap k hlt
      obtain ⟨es, ck, hes⟩ := HM.out.is
      have hq2 := hq.upd hu (ne_map (hq.cells).1 hes)
      have hin := HOK.out _ (List.getElem_mem hlt)
      have HT := Lib.hid (show made F (l.take (k + 1)) = Chg.on (made F (l.take k)) l[k] by rw [List.take_succ_eq_append_getElem hlt, made_snoc])
      generalize l[k] = c at *
      obtain ⟨cn, cd, cg⟩ := c
      simp only at hin
      obtain ⟨c0, c1, c2⟩ := hq2.cells
      simp only at c0 c1 c2
      have hml := made_length F (l.take k)
      rw [List.length_take] at hml
      have hb : Below wr.heap.size wr (wr.alloc (.cells #[.string (bs cn), .string (bs cd), .bool cg] 99)) := (Below.refl _ _).alloc (Nat.le_refl _) _
      have hm2 := hm.below hb
      have HU := Lib.hid hu
      have HB := Lib.hid hb
      cases cg with
      | true =>
        have hd := fun ty => hm2.delete cn hin ty
        obtain ⟨w2, hd1, hd2, hd3⟩ := hd 0
        have HD2 := Lib.hid hd2; have HD3 := Lib.hid hd3
        clear hq hq2 hes hm hm2 hu hb hml hd2 hd3 hd
        go_wp2_with fail
        go_roundw
        case rel => exact ⟨k + 1, by omega, by go_num, by rw [HT.out]; exact HD2.out, (HU.out.trans (Upd.of_below (F := fun k => k = m) HB.out) (fun i hi => .inl hi)).trans (Upd.of_grownBy (F := fun k => k = m) HD3.out (fun k e => by cases e; rfl)) (fun i hi => .inl hi)⟩
        case measure => simp [intOf]; omega
      | false =>
        obtain ⟨w2, hd1, hd2, hd3⟩ := hm2.update cn cd hin (by unfold maxLen; omega)
        have HD2 := Lib.hid hd2; have HD3 := Lib.hid hd3
        clear hq hq2 hes hm hm2 hu hb hml hd2 hd3
        go_wp2_with fail
        go_roundw
        case rel => exact ⟨k + 1, by omega, by go_num, by rw [HT.out]; exact HD2.out, (HU.out.trans (Upd.of_below (F := fun k => k = m) HB.out) (fun i hi => .inl hi)).trans (Upd.of_grownBy (F := fun k => k = m) HD3.out (fun k e => by cases e; rfl)) (fun i hi => .inl hi)⟩
        case measure => simp [intOf]; omega
    · obtain rfl : k = l.length := by omega
      rw [List.take_length] at hm
      have HM2 := Lib.hid hm; have HU := Lib.hid hu
      clear hm hu
      go_wp2_with fail
      go_end0
      exact ⟨rfl, HM2.out, HU.out⟩
theorem cells_two_new (w : World) (x y : Value) (t : TypeId) : ∀ j u, [x, y][j]? = some u → (w.alloc (.cells #[x, y] t)).cell? ((⟨w.heap.size, 0, none⟩ : Addr).add j) = some u := by
  intro j u hj
  rw [add_plain, cell_new_row]
  match j, hj with
  | 0, hj => simpa using hj
  | 1, hj => simpa using hj
theorem group_take (l : List Chg) (k : Nat) (h : k < l.length) : group (l.take (k + 1)) = group (l.take k) ++ [flagB l[k].gone :: l[k].name, l[k].data] := by
  rw [List.take_succ_eq_append_getElem h, group_snoc]
set_option maxRecDepth 100000 in
set_option maxHeartbeats 1000000 in
theorem fgroup_any {w : World} {a : Option Addr} {cap : Nat} {l : List Chg} (hL : ChgsAt w a l) (hlen : l.length ≤ 1000000) (hok : ∀ c ∈ l, c.name.length ≤ 1000000) :
    Calls Tryz.prog 92 #[.slice a l.length cap] w fun e w' => ∃ q cap', e = .returned (.slice q (group l).length cap') ∧ w'.ownsRow w.heap.size 9 1 (.slice q (group l).length cap') (group l).length (strCells (group l)) ∧ Below w.heap.size w w' := by
  obtain ⟨i0, hi0, hz0, hz1, hz2⟩ := info_parts str_info3
  have HL := Lib.hid hL; have HOK := Lib.hid hok
  clear hL hok
  go_enter Tryz.func92, Tryz.ntmps92
  go_wp2_with fail
  go_loopw [2, 8] (fun s i wr => ∃ (k : Nat) (q : Option Addr) (c : Nat), k ≤ l.length ∧ i = .int .i64 k ∧ s = .slice q (2 * k) c ∧ wr.ownsRow w.heap.size 9 1 (.slice q (2 * k) c) (2 * k) (strCells (group (l.take k))) ∧ Below w.heap.size w wr) (fun _ i _ => l.length - (intOf i).toNat)
  case atStart => exact ⟨0, none, 0, Nat.zero_le _, rfl, rfl, by rw [List.take_zero]; show World.ownsRow _ _ _ _ _ 0 (strCells []); rw [strCells_nil]; exact World.ownsRow_nil _ _ _ _, Below.refl _ _⟩
  case round =>
    obtain ⟨k, q, c, hk, rfl, rfl, hrow, hb⟩ := hrel
    by_cases hlt : k < l.length
    · obtain ⟨qa, hix, hq, -⟩ := HL.out.index cap k hlt
      have hq2 := hq.below hb
      have hin := HOK.out _ (List.getElem_mem hlt)
      have HT := Lib.hid (group_take l k hlt)
      have h0 : ({ data := #[0] } : ByteArray) = bs [0] := rfl
      have h1 : ({ data := #[1] } : ByteArray) = bs [1] := rfl
      generalize l[k] = x at *
      obtain ⟨cn, cd, cg⟩ := x
      simp only at hin
      obtain ⟨c0, c1, c2⟩ := hq2.cells
      simp only at c0 c1 c2
      have hsz := hb.size
      have HR := Lib.hid hrow; have HB := Lib.hid hb
      clear hq hq2 hrow hb
      cases cg with
      | true =>
        go_wp2_with (at_builtin; refine wpList_append_own_at _ rfl _ _ 30 rfl w.heap.size 9 i0 _ 1 16 Tryz.underlying30 hi0 hz0 hz1 hz2 rfl (by decide) _ (2 * k) _ rfl ((HR.out.alloc _).alloc _) ⟨wr.heap.size + 1, 0, none⟩ 2 2 [.string (bs (1 :: cn)), .string (bs cd)] rfl rfl (by have h := cells_two_new (wr.alloc (.cells #[.string (bs cn), .string (bs cd), .bool true] 99)) (.string (bs (1 :: cn))) (.string (bs cd)) 9; rw [World.size_alloc] at h; exact h) (by simp [Value.oneCell']) (by unfold maxLen; omega) (by omega) (by simp; omega) ?_; intro v' w1 hown' hgrow _ hat; obtain ⟨g', cap', rfl⟩ := ownsRow_succ hown'; have HO := Lib.hid hown'; have HG := Lib.hid hgrow; clear hown' hgrow hat)
        go_roundw
        case rel =>
          refine ⟨k + 1, _, _, by omega, by go_num, rfl, ?_, ?_⟩
          · rw [HT.out]
            unfold flagB
            have e : strCells (group (l.take k) ++ [1 :: cn, cd]) = strCells (group (l.take k)) ++ [.string (bs (1 :: cn)), .string (bs cd)] := by
              rw [show group (l.take k) ++ [1 :: cn, cd] = (group (l.take k) ++ [1 :: cn]) ++ [cd] by simp, strCells_snoc, strCells_snoc, List.append_assoc]; rfl
            exact e ▸ HO.out
          · exact ((HB.out.alloc HB.out.size _).alloc (by simp; omega) _).grown HG.out (by simp; omega) (fun j hj => by
              have hj' : (Value.slice q (2 * k) c).ownBlock = some j := hj
              rcases HR.out.2 with ⟨e1, _⟩ | ⟨g, c2, cur, e1, hbase, _⟩
              · rw [e1] at hj'; simp [Value.ownBlock] at hj'
              · rw [e1] at hj'; simp [Value.ownBlock] at hj'; omega)
        case measure => simp [intOf]; omega
      | false =>
        go_wp2_with (at_builtin; refine wpList_append_own_at _ rfl _ _ 30 rfl w.heap.size 9 i0 _ 1 16 Tryz.underlying30 hi0 hz0 hz1 hz2 rfl (by decide) _ (2 * k) _ rfl ((HR.out.alloc _).alloc _) ⟨wr.heap.size + 1, 0, none⟩ 2 2 [.string (bs (0 :: cn)), .string (bs cd)] rfl rfl (by have h := cells_two_new (wr.alloc (.cells #[.string (bs cn), .string (bs cd), .bool false] 99)) (.string (bs (0 :: cn))) (.string (bs cd)) 9; rw [World.size_alloc] at h; exact h) (by simp [Value.oneCell']) (by unfold maxLen; omega) (by omega) (by simp; omega) ?_; intro v' w1 hown' hgrow _ hat; obtain ⟨g', cap', rfl⟩ := ownsRow_succ hown'; have HO := Lib.hid hown'; have HG := Lib.hid hgrow; clear hown' hgrow hat)
        go_roundw
        case rel =>
          refine ⟨k + 1, _, _, by omega, by go_num, rfl, ?_, ?_⟩
          · rw [HT.out]
            unfold flagB
            have e : strCells (group (l.take k) ++ [0 :: cn, cd]) = strCells (group (l.take k)) ++ [.string (bs (0 :: cn)), .string (bs cd)] := by
              rw [show group (l.take k) ++ [0 :: cn, cd] = (group (l.take k) ++ [0 :: cn]) ++ [cd] by simp, strCells_snoc, strCells_snoc, List.append_assoc]; rfl
            exact e ▸ HO.out
          · exact ((HB.out.alloc HB.out.size _).alloc (by simp; omega) _).grown HG.out (by simp; omega) (fun j hj => by
              have hj' : (Value.slice q (2 * k) c).ownBlock = some j := hj
              rcases HR.out.2 with ⟨e1, _⟩ | ⟨g, c2, cur, e1, hbase, _⟩
              · rw [e1] at hj'; simp [Value.ownBlock] at hj'
              · rw [e1] at hj'; simp [Value.ownBlock] at hj'; omega)
        case measure => simp [intOf]; omega
    · obtain rfl : k = l.length := by omega
      rw [List.take_length] at hrow
      have hgl := group_length l
      rw [← hgl] at hrow ⊢
      have HR := Lib.hid hrow; have HB := Lib.hid hb
      clear hrow hb hgl
      go_wp2_with fail
      go_ret
      exact ⟨_, _, rfl, HR.out, HB.out⟩
end Go.Proofs.YtoaihngckcbhiaaGreatDoor
namespace Go.Proofs.YtoaihngckcbhiaaGreatDoor
open Go.RowKit Go.Maps
open Fil
theorem ungroup_odd : ∀ (n : Nat) (l : List T), l.length ≤ n → l.length % 2 = 1 → ungroup l = none := by
  intro n
  induction n with
  | zero => intro l hn h; omega
  | succ n ih =>
    intro l hn h
    match l, h with
    | [_], _ => rfl
    | [] :: _ :: _, _ => rfl
    | (b :: k) :: d :: l, h =>
      simp only [ungroup]
      split
      · rw [ih l (by simp at hn; omega) (by simp at h; omega)]; rfl
      · rfl
theorem ungroup_yes {l R : List T} {cs : List Chg} {b : UInt8} {n d : T} (h : ungroup l = (ungroup ((b :: n) :: d :: R)).map (cs ++ ·)) (hb : b.toNat ≤ 1) (hm : Chg.may ⟨n, d, b == 1⟩ = true) : ungroup l = (ungroup R).map ((cs ++ [⟨n, d, b == 1⟩]) ++ ·) := by
  rw [h]
  simp only [ungroup]
  rw [if_pos ⟨hb, hm⟩, Option.map_map]
  congr 1
  funext q
  simp
theorem ungroup_no {l R : List T} {cs : List Chg} {b : UInt8} {n d : T} (h : ungroup l = (ungroup ((b :: n) :: d :: R)).map (cs ++ ·)) (hb : ¬ (b.toNat ≤ 1 ∧ Chg.may ⟨n, d, b == 1⟩ = true)) : ungroup l = none := by
  rw [h]
  simp only [ungroup]
  rw [if_neg hb]
  rfl
theorem ungroup_nil {l R : List T} {cs : List Chg} {d : T} (h : ungroup l = (ungroup ([] :: d :: R)).map (cs ++ ·)) : ungroup l = none := by
  rw [h]; rfl
@[irreducible] def chgCells (l : List Chg) : List Value := l.flatMap fun c => [.string (bs c.name), .string (bs c.data), .bool c.gone]
theorem chgCells_nil : chgCells [] = [] := by unfold chgCells; rfl
theorem chgCells_snoc (l : List Chg) (c : Chg) : chgCells (l ++ [c]) = chgCells l ++ [.string (bs c.name), .string (bs c.data), .bool c.gone] := by unfold chgCells; simp
theorem chgCells_get (l : List Chg) (k : Nat) (hk : k < l.length) (j : Nat) (hj : j < 3) : (chgCells l)[k * 3 + j]? = ([.string (bs l[k].name), .string (bs l[k].data), .bool l[k].gone] : List Value)[j]? := by
  unfold chgCells
  induction l generalizing k with
  | nil => simp at hk
  | cons c l ih =>
    rw [List.flatMap_cons]
    cases k with
    | zero =>
      rw [Nat.zero_mul, Nat.zero_add, List.getElem?_append_left (by simp; omega)]
      rfl
    | succ k =>
      rw [List.getElem?_append_right (by simp; omega), show (k + 1) * 3 + j - ([Value.string (bs c.name), .string (bs c.data), .bool c.gone] : List Value).length = k * 3 + j by simp; omega]
      exact ih k (by simpa using hk)
theorem ChgsAt.of_row {w : World} {base : Nat} {q : Option Addr} {c : Nat} {l : List Chg} (h : w.ownsRow base 99 3 (.slice q l.length c) l.length (chgCells l)) : ChgsAt w q l := fun i hi => by
  rcases h.2 with ⟨e1, e2⟩ | ⟨g, cap, cur, e1, _⟩
  · omega
  · have e2 : q = some ⟨g, 0, none⟩ := by injection e1
    subst e2
    have hc : ∀ j, j < 3 → ∀ v, ([.string (bs l[i].name), .string (bs l[i].data), .bool l[i].gone] : List Value)[j]? = some v → w.cell? (((⟨g, 0, none⟩ : Addr).add (i * 3)).add j) = some v := fun j hj v hv => by
      rw [← chgCells_get l i hi j hj] at hv
      have := h.cells (g := g) rfl _ _ hv
      rw [add_plain] at this ⊢
      rw [add_off]
      exact this
    exact ⟨_, rfl, hc 0 (by omega) _ rfl, hc 1 (by omega) _ rfl, hc 2 (by omega) _ rfl⟩
theorem chg_info3 : (Tryz.prog.info? 99).map (fun i => (i.zero, i.size, i.bytes)) = some (some (.agg #[.string ByteArray.empty, .string ByteArray.empty, .bool false]), 3, 40) := by kernel_rfl
def UngroupPost (w : World) (l : List T) (e : Ending) (w' : World) : Prop :=
  match ungroup l with
  | none => e = .returned (.tuple #[.slice none 0 0, .bool false]) ∧ Below w.heap.size w w'
  | some cs => ∃ q c, e = .returned (.tuple #[.slice q cs.length c, .bool true]) ∧ w'.ownsRow w.heap.size 99 3 (.slice q cs.length c) cs.length (chgCells cs) ∧ Below w.heap.size w w'
theorem ungroupPost_none {w w' : World} {l : List T} {e : Ending} (h : ungroup l = none) (he : e = .returned (.tuple #[.slice none 0 0, .bool false])) (hb : Below w.heap.size w w') : UngroupPost w l e w' := by
  unfold UngroupPost; rw [h]; exact ⟨he, hb⟩
theorem ungroupPost_some {w w' : World} {l : List T} {e : Ending} {cs : List Chg} {q : Option Addr} {c : Nat} (h : ungroup l = some cs) (he : e = .returned (.tuple #[.slice q cs.length c, .bool true])) (ho : w'.ownsRow w.heap.size 99 3 (.slice q cs.length c) cs.length (chgCells cs)) (hb : Below w.heap.size w w') : UngroupPost w l e w' := by
  unfold UngroupPost; rw [h]; exact ⟨q, c, he, ho, hb⟩
set_option maxRecDepth 100000 in
set_option maxHeartbeats 2000000 in
theorem fungroup_any {w : World} {a : Option Addr} {cap : Nat} {l : List T} (hL : TextsAt w a l) (hlen : l.length ≤ 1000000) (hok : ∀ s ∈ l, s.length ≤ 1000000000) :
    Calls Tryz.prog 31 #[.slice a l.length cap] w fun e w' => UngroupPost w l e w' := by
  have HL := Lib.hid hL; have HOK := Lib.hid hok
  clear hL hok
  by_cases hodd : l.length % 2 = 1
  · have HN := Lib.hid (ungroup_odd _ l (Nat.le_refl _) hodd)
    have h1 : (l.length : Int) % 2 = 1 := by omega
    clear hodd
    go_enter Tryz.func31, Tryz.ntmps31
    go_wp2_with fail
    go_ret2
    exact ungroupPost_none HN.out rfl (Below.refl _ _)
  · obtain ⟨n, hn⟩ : ∃ n, l.length = 2 * n := ⟨l.length / 2, by omega⟩
    have h1 : (l.length : Int) % 2 = 0 := by omega
    clear hodd
    obtain ⟨i0, hi0, hz0, hz1, hz2⟩ := info_parts chg_info3
    have HNN := Lib.hid hn
    clear hn
    go_enter Tryz.func31, Tryz.ntmps31
    go_wp2_with fail
    clear h1
    go_loopw [2, 4] (fun s i wr => ∃ (k : Nat) (cs : List Chg) (q : Option Addr) (c : Nat), k ≤ n ∧ cs.length = k ∧ i = .int .i64 (2 * (k : Int)) ∧ s = .slice q cs.length c ∧ wr.ownsRow w.heap.size 99 3 (.slice q cs.length c) cs.length (chgCells cs) ∧ Below w.heap.size w wr ∧ ungroup l = (ungroup (l.drop (2 * k))).map (cs ++ ·)) (fun _ i _ => l.length - (intOf i).toNat)
    case atStart => exact ⟨0, [], none, 0, Nat.zero_le _, rfl, rfl, rfl, by rw [chgCells_nil]; exact World.ownsRow_nil _ _ _ _, Below.refl _ _, by rw [List.drop_zero]; cases ungroup l <;> rfl⟩
    case round =>
      obtain ⟨k, cs, q, c, hk, hcl, rfl, rfl, hrow, hb, hug⟩ := hrel
      by_cases hlt : k < n
      · have hnn := HNN.out
        have hk1 : 2 * k < l.length := by omega
        have hk2 : 2 * k + 1 < l.length := by omega
        obtain ⟨p, hp, hs1⟩ := HL.out (2 * k) hk1
        obtain ⟨p', hp', hs2⟩ := HL.out (2 * k + 1) hk2
        obtain rfl : p = p' := by rw [hp] at hp'; exact Option.some.inj hp'
        have hd : l.drop (2 * k) = l[2 * k] :: l[2 * k + 1] :: l.drop (2 * (k + 1)) := by
          rw [List.drop_eq_getElem_cons hk1, List.drop_eq_getElem_cons hk2]; rfl
        rw [hd] at hug
        clear hd
        have hix1 : ∀ W, (Instr.indexAt 30 (.slice (some p) l.length cap) (.int .i64 (2 * (k : Int)))).run Tryz.prog W = .ok (.pointer (some (p.add (2 * k)))) W := fun W => by
          have := run_index_slice Tryz.prog 30 9 Tryz.underlying30 1 (by kernel_rfl) p l.length cap (2 * k) hk1 W
          rw [Nat.mul_one, show ((2 * k : Nat) : Int) = 2 * (k : Int) by omega] at this
          exact this
        have hix2 : ∀ W, (Instr.indexAt 30 (.slice (some p) l.length cap) (.int .i64 (2 * (k : Int) + 1))).run Tryz.prog W = .ok (.pointer (some (p.add (2 * k + 1)))) W := fun W => by
          have := run_index_slice Tryz.prog 30 9 Tryz.underlying30 1 (by kernel_rfl) p l.length cap (2 * k + 1) hk2 W
          rw [Nat.mul_one, show ((2 * k + 1 : Nat) : Int) = 2 * (k : Int) + 1 by omega] at this
          exact this
        have ho1 := HOK.out _ (List.getElem_mem hk1)
        have ho2 := HOK.out _ (List.getElem_mem hk2)
        subst hp
        have hs1b := (hb.cell (block_lt_of_cell hs1)).trans hs1
        have hs2b := (hb.cell (block_lt_of_cell hs2)).trans hs2
        have hs1c : ∀ o, (wr.alloc o).cell? (p.add (2 * k)) = some (.string (bs l[2 * k])) := fun o => (((Below.refl _ wr).alloc (Nat.le_refl _) o).cell (block_lt_of_cell hs1b)).trans hs1b
        have hs2c : ∀ o, (wr.alloc o).cell? (p.add (2 * k + 1)) = some (.string (bs l[2 * k + 1])) := fun o => (((Below.refl _ wr).alloc (Nat.le_refl _) o).cell (block_lt_of_cell hs2b)).trans hs2b
        have HR := Lib.hid hrow; have HB := Lib.hid hb; have HCL := Lib.hid hcl
        have hszb := hb.size
        clear HL
        generalize p.add (2 * k) = q1 at *
        generalize p.add (2 * k + 1) = q2 at *
        generalize l[2 * k] = s1 at *
        generalize l[2 * k + 1] = s2 at *
        obtain ⟨R, hR⟩ : ∃ R, l.drop (2 * (k + 1)) = R := ⟨_, rfl⟩
        rw [hR] at hug
        have HRE := Lib.hid hR
        clear hR
        clear hrow hb hs1 hs2 hp' hcl
        cases s1 with
        | nil =>
          have HN := Lib.hid (ungroup_nil hug)
          clear hug hnn
          go_wp2_with fail
          go_ret2
          exact ungroupPost_none HN.out rfl HB.out
        | cons b nm =>
          by_cases hb1 : b.toNat ≤ 1
          · rcases (show b = 0 ∨ b = 1 by
              have h1 := UInt8.toNat_lt b
              rcases (show b.toNat = 0 ∨ b.toNat = 1 by omega) with h | h
              · exact .inl (UInt8.toNat_inj.1 h)
              · exact .inr (UInt8.toNat_inj.1 h)) with rfl | rfl
            all_goals clear hb1 hnn
            · have hcf : ∀ W, (Instr.slice 9 (.string (bs (0 :: nm))) (some (.int .i64 1)) none none).run Tryz.prog W = .ok (.string (bs nm)) W := fun W => run_cut_from Tryz.prog W 9 Tryz.underlying9 (0 :: nm) 1 (by simp)
              have hnl : nm.length ≤ 1000000000 := by simp at ho1; omega
              have HNL := Lib.hid hnl
              have HUG := Lib.hid hug
              have e0 : (0 : Nat) < (0 :: nm).length := by simp
              clear hug ho1
              go_wp2_with fail
              go_region
              all_goals
                have HBW := Lib.hid (show Below wr.heap.size wr (wr.alloc (.cells #[.string (bs nm), .string (bs s2), .bool false] 99)).drew from ((Below.refl _ _).alloc (Nat.le_refl _) _).drew)
                have d0 : ((wr.alloc (.cells #[.string (bs nm), .string (bs s2), .bool false] 99)).drew).cell? ⟨wr.heap.size, 0, none⟩ = some (.string (bs nm)) := by simp
                have d1 : ((wr.alloc (.cells #[.string (bs nm), .string (bs s2), .bool false] 99)).drew).cell? ⟨wr.heap.size, 1, none⟩ = some (.string (bs s2)) := by simp
                have d2 : ((wr.alloc (.cells #[.string (bs nm), .string (bs s2), .bool false] 99)).drew).cell? ⟨wr.heap.size, 2, none⟩ = some (.bool false) := by simp
                have HSW := Lib.hid (show ((wr.alloc (.cells #[.string (bs nm), .string (bs s2), .bool false] 99)).drew).heap.size = wr.heap.size + 1 by simp)
                clear hs1b hs1c hs2b hs2c
                generalize (wr.alloc (.cells #[.string (bs nm), .string (bs s2), .bool false] 99)).drew = W1 at *
                go_wp2_with fail
                refine (fmay_any nm s2 false _ (by have := HNL.out; unfold maxLen; omega) (by unfold maxLen; omega)).mono ?_
                rintro e w2 ⟨rfl, hb2⟩
                have hlt1 : wr.heap.size < W1.heap.size := by have := HSW.out; omega
                have f0 := (hb2.cell (p := ⟨wr.heap.size, 0, none⟩) hlt1).trans d0
                have f1 := (hb2.cell (p := ⟨wr.heap.size, 1, none⟩) hlt1).trans d1
                have f2 := (hb2.cell (p := ⟨wr.heap.size, 2, none⟩) hlt1).trans d2
                have HB2 := Lib.hid (HBW.out.trans (hb2.mono HBW.out.size))
                clear d0 d1 d2 hb2 hlt1
                obtain ⟨mv, hmv⟩ : ∃ mv, Chg.may ⟨nm, s2, false⟩ = mv := ⟨_, rfl⟩
                have HMV := Lib.hid hmv
                rw [hmv]
                clear hmv
                cases mv with
                | false =>
                  have HN := Lib.hid (ungroup_no HUG.out (fun h => by have h2 := h.2; rw [show ((0 : UInt8) == 1) = false from rfl, HMV.out] at h2; cases h2))
                  go_wp2_with fail
                  go_ret2
                  exact ungroupPost_none HN.out rfl (HB.out.trans (HB2.out.mono HB.out.size))
                | true =>
                  have HY := Lib.hid (ungroup_yes HUG.out (by decide) (by rw [show ((0 : UInt8) == 1) = false from rfl]; exact HMV.out))
                  have hsz2 := HB2.out.size
                  have hwz : w.heap.size ≤ w2.heap.size := Nat.le_trans hszb hsz2
                  have hcl2 : cs.length ≤ 1000000 := by have := HCL.out; omega
                  have HR2 := Lib.hid (ownsRow_upd HR.out (Upd.of_below (F := fun _ => False) HB2.out) (fun _ _ f => f))
                  go_wp2_with (at_builtin; refine wpList_append_own_at _ rfl _ _ 85 rfl w.heap.size 99 i0 _ 3 40 Tryz.underlying85 hi0 hz0 hz1 hz2 rfl (by decide) _ cs.length _ rfl (HR2.out.alloc _) ⟨w2.heap.size, 0, none⟩ 1 1 [.string (bs nm), .string (bs s2), .bool false] rfl rfl (by intro j u hj; rw [add_plain, cell_new_row]; exact (Array.getElem?_toList ▸ hj)) (by simp [Value.oneCell']) (by unfold maxLen; omega) (by omega) (by simp; omega) ?_; intro v' w1 hown' hgrow _ hat; obtain ⟨g', cap', rfl⟩ := ownsRow_succ hown'; have HO := Lib.hid hown'; have HG := Lib.hid hgrow; clear hown' hgrow hat)
                  go_roundw
                  case rel =>
                      refine ⟨k + 1, cs ++ [⟨nm, s2, false⟩], _, _, by omega, by rw [List.length_append, HCL.out]; rfl, by go_num, by rw [List.length_append]; rfl, ?_, ?_, by rw [HRE.out]; exact HY.out⟩
                      · rw [List.length_append, chgCells_snoc]; exact HO.out
                      · exact ((HB.out.trans (HB2.out.mono HB.out.size)).alloc hwz _).grown HG.out (by simp; omega) (fun j hj => by
                          have hj' : (Value.slice q cs.length c).ownBlock = some j := hj
                          rcases HR.out.2 with ⟨e1, _⟩ | ⟨g, c2, cur, e1, hbase, _⟩
                          · rw [e1] at hj'; simp [Value.ownBlock] at hj'
                          · rw [e1] at hj'; simp [Value.ownBlock] at hj'; omega)
                  case measure => simp [intOf]; omega
            · have hcf : ∀ W, (Instr.slice 9 (.string (bs (1 :: nm))) (some (.int .i64 1)) none none).run Tryz.prog W = .ok (.string (bs nm)) W := fun W => run_cut_from Tryz.prog W 9 Tryz.underlying9 (1 :: nm) 1 (by simp)
              have hnl : nm.length ≤ 1000000000 := by simp at ho1; omega
              have HNL := Lib.hid hnl
              have HUG := Lib.hid hug
              have e0 : (0 : Nat) < (1 :: nm).length := by simp
              clear hug ho1
              go_wp2_with fail
              go_region
              all_goals
                have HBW := Lib.hid (show Below wr.heap.size wr (wr.alloc (.cells #[.string (bs nm), .string (bs s2), .bool true] 99)).drew from ((Below.refl _ _).alloc (Nat.le_refl _) _).drew)
                have d0 : ((wr.alloc (.cells #[.string (bs nm), .string (bs s2), .bool true] 99)).drew).cell? ⟨wr.heap.size, 0, none⟩ = some (.string (bs nm)) := by simp
                have d1 : ((wr.alloc (.cells #[.string (bs nm), .string (bs s2), .bool true] 99)).drew).cell? ⟨wr.heap.size, 1, none⟩ = some (.string (bs s2)) := by simp
                have d2 : ((wr.alloc (.cells #[.string (bs nm), .string (bs s2), .bool true] 99)).drew).cell? ⟨wr.heap.size, 2, none⟩ = some (.bool true) := by simp
                have HSW := Lib.hid (show ((wr.alloc (.cells #[.string (bs nm), .string (bs s2), .bool true] 99)).drew).heap.size = wr.heap.size + 1 by simp)
                clear hs1b hs1c hs2b hs2c
                generalize (wr.alloc (.cells #[.string (bs nm), .string (bs s2), .bool true] 99)).drew = W1 at *
                go_wp2_with fail
                refine (fmay_any nm s2 true _ (by have := HNL.out; unfold maxLen; omega) (by unfold maxLen; omega)).mono ?_
                rintro e w2 ⟨rfl, hb2⟩
                have hlt1 : wr.heap.size < W1.heap.size := by have := HSW.out; omega
                have f0 := (hb2.cell (p := ⟨wr.heap.size, 0, none⟩) hlt1).trans d0
                have f1 := (hb2.cell (p := ⟨wr.heap.size, 1, none⟩) hlt1).trans d1
                have f2 := (hb2.cell (p := ⟨wr.heap.size, 2, none⟩) hlt1).trans d2
                have HB2 := Lib.hid (HBW.out.trans (hb2.mono HBW.out.size))
                clear d0 d1 d2 hb2 hlt1
                obtain ⟨mv, hmv⟩ : ∃ mv, Chg.may ⟨nm, s2, true⟩ = mv := ⟨_, rfl⟩
                have HMV := Lib.hid hmv
                rw [hmv]
                clear hmv
                cases mv with
                | false =>
                  have HN := Lib.hid (ungroup_no HUG.out (fun h => by have h2 := h.2; rw [show ((1 : UInt8) == 1) = true from rfl, HMV.out] at h2; cases h2))
                  go_wp2_with fail
                  go_ret2
                  exact ungroupPost_none HN.out rfl (HB.out.trans (HB2.out.mono HB.out.size))
                | true =>
                  have HY := Lib.hid (ungroup_yes HUG.out (by decide) (by rw [show ((1 : UInt8) == 1) = true from rfl]; exact HMV.out))
                  have hsz2 := HB2.out.size
                  have hwz : w.heap.size ≤ w2.heap.size := Nat.le_trans hszb hsz2
                  have hcl2 : cs.length ≤ 1000000 := by have := HCL.out; omega
                  have HR2 := Lib.hid (ownsRow_upd HR.out (Upd.of_below (F := fun _ => False) HB2.out) (fun _ _ f => f))
                  go_wp2_with (at_builtin; refine wpList_append_own_at _ rfl _ _ 85 rfl w.heap.size 99 i0 _ 3 40 Tryz.underlying85 hi0 hz0 hz1 hz2 rfl (by decide) _ cs.length _ rfl (HR2.out.alloc _) ⟨w2.heap.size, 0, none⟩ 1 1 [.string (bs nm), .string (bs s2), .bool true] rfl rfl (by intro j u hj; rw [add_plain, cell_new_row]; exact (Array.getElem?_toList ▸ hj)) (by simp [Value.oneCell']) (by unfold maxLen; omega) (by omega) (by simp; omega) ?_; intro v' w1 hown' hgrow _ hat; obtain ⟨g', cap', rfl⟩ := ownsRow_succ hown'; have HO := Lib.hid hown'; have HG := Lib.hid hgrow; clear hown' hgrow hat)
                  go_roundw
                  case rel =>
                      refine ⟨k + 1, cs ++ [⟨nm, s2, true⟩], _, _, by omega, by rw [List.length_append, HCL.out]; rfl, by go_num, by rw [List.length_append]; rfl, ?_, ?_, by rw [HRE.out]; exact HY.out⟩
                      · rw [List.length_append, chgCells_snoc]; exact HO.out
                      · exact ((HB.out.trans (HB2.out.mono HB.out.size)).alloc hwz _).grown HG.out (by simp; omega) (fun j hj => by
                          have hj' : (Value.slice q cs.length c).ownBlock = some j := hj
                          rcases HR.out.2 with ⟨e1, _⟩ | ⟨g, c2, cur, e1, hbase, _⟩
                          · rw [e1] at hj'; simp [Value.ownBlock] at hj'
                          · rw [e1] at hj'; simp [Value.ownBlock] at hj'; omega)
                  case measure => simp [intOf]; omega
          · have HN := Lib.hid (ungroup_no hug (fun h => hb1 h.1))
            have hbi : (1 : Int) < (b.toNat : Int) := by omega
            clear hug hnn hb1
            go_wp2_with fail
            go_ret2
            exact ungroupPost_none HN.out rfl HB.out
      · obtain rfl : k = n := by omega
        have hnn := HNN.out
        rw [List.drop_of_length_le (by omega)] at hug
        have HUG := Lib.hid (show ungroup l = some cs by rw [hug]; simp [ungroup])
        have HR := Lib.hid hrow; have HB := Lib.hid hb
        clear hrow hb hug
        go_wp2_with fail
        go_ret2
        exact ungroupPost_some HUG.out rfl HR.out HB.out
end Go.Proofs.YtoaihngckcbhiaaGreatDoor
