/- Oct -/
import Derived.Test.YtoaihngckcbhiaaGreatDoorPkCrc
import Derived.Test.YtoaihngckcbhiaaGreatDoorPkWalPlain
import Derived.Lib.EndianBits
import Derived.Outline
import Derived.BigQuiet
import Derived.Deep.QuietTactic
import Derived.Test.YtoaihngckcbhiaaGreatDoorPkDiskRep
import Derived.Lib.AppendStr
import Derived.Test.YtoaihngckcbhiaaGreatDoorPkRef
import Derived.Deep.AppendLies
import Derived.Deep.RegionLaw
namespace Go.Proofs.YtoaihngckcbhiaaGreatDoor
open Go.RowKit
open Wal
theorem below_drawn (w : World) (n : Nat) : Below w.heap.size w (w.drewN n) := ⟨rfl, rfl, rfl, Nat.le_refl _, fun _ _ => rfl⟩
theorem run_cut (P : Program) (W : World) (t : TypeId) (hu : P.underlying t = some .string) (s : List UInt8) (lo hi : Nat) (h1 : lo ≤ hi) (h2 : hi ≤ s.length) :
    (Instr.slice t (.string (bs s)) (some (.int .i64 (lo : Int))) (some (.int .i64 (hi : Int))) none).run P W = .ok (.string (bs ((s.take hi).drop lo))) W := by
  have g2 : (hi : Int) ≤ (s.length : Int) := by omega
  simp [Instr.slice, run_underlying hu, Instr.sliceBounds, run_sliceBound, go_sem, h1, g2]
theorem or_byte (V b k : Nat) (hV : V < 256 ^ k) (hb : b < 256) (hk : k < 8) : bits BinOp.or IntKind.u64 (V : Int) (IntKind.u64.wrap (IntKind.u64.wrap (b : Int) * 2 ^ (8 * k))) = ((V + 256 ^ k * b : Nat) : Int) := by
  have hp : (2 : Int) ^ (8 * k) = ((256 ^ k : Nat) : Int) := by rw [Int.pow_mul]; norm_cast
  have hle : 256 ^ k * 256 ≤ 256 ^ 8 := by rw [← Nat.pow_succ]; exact Nat.pow_le_pow_right (by decide) (by omega)
  have hmul : 256 ^ k * b < 256 ^ 8 := Nat.lt_of_lt_of_le (Nat.mul_lt_mul_of_pos_left hb (Nat.pow_pos (by decide))) hle
  have hp1 : 0 < 256 ^ k := Nat.pow_pos (by decide)
  have h8 : (256 : Nat) ^ 8 = 18446744073709551616 := by decide
  have hV8 : V < 18446744073709551616 := by
    have : 256 ^ k ≤ 256 ^ 8 := Nat.pow_le_pow_right (by decide) (by omega)
    rw [← h8]
    exact Nat.lt_of_lt_of_le hV this
  have he : (b : Int) * 2 ^ (8 * k) = ((256 ^ k * b : Nat) : Int) := by rw [hp, Int.natCast_mul, Int.mul_comm]
  have hdv : ((256 ^ k * b : Nat) : Int) % 2 ^ (8 * k) = 0 := by rw [hp, ← Int.natCast_emod, Nat.mul_mod_right]; rfl
  have h64 : (2 : Int) ^ 64 = 18446744073709551616 := by decide
  have hm8 : 256 ^ k * b < 18446744073709551616 := by rw [← h8]; exact hmul
  generalize 256 ^ k * b = m at *
  have e1 : IntKind.u64.wrap (b : Int) = (b : Int) := u64_wrap_id _ (by omega) (by omega)
  have e2 : IntKind.u64.wrap (m : Int) = (m : Int) := u64_wrap_id _ (by omega) (by omega)
  rw [e1, he, e2]
  rw [bits_join_low .u64 64 (by decide) wraps_u64 (8 * k) (V : Int) (m : Int) (by omega) (by rw [hp]; omega) (by rw [h64]; omega) (by omega) hdv (by rw [h64]; omega)]
  exact (Int.natCast_add V m).symm
theorem val_take_succ (s : List UInt8) (k : Nat) (h : k < s.length) : Crc.val (s.take (k + 1)) = Crc.val (s.take k) + 256 ^ k * s[k].toNat := by
  rw [List.take_succ_eq_append_getElem h, Crc.val_append, List.length_take, Nat.min_eq_left (by omega)]
  simp [Crc.val]
set_option maxRecDepth 100000 in
set_option maxHeartbeats 400000 in
theorem get_any (s : List UInt8) (w : World) (h1 : 1 ≤ s.length) (h8 : s.length ≤ 8) :
    Calls Tryz.prog 61 #[.string (bs s)] w fun e w' => e = .returned (.tuple #[.int .u64 (Crc.val s : Nat), .int .i64 0]) ∧ w = w' := by
  have d1 : decide ((s.length : Int) < 1) = false := by simp; omega
  have d2 : decide (8 < (s.length : Int)) = false := by simp; omega
  go_enter Tryz.func61, Tryz.ntmps61
  go_wp2_with fail
  go_loop [2, 15] (fun v i => ∃ k : Nat, k ≤ s.length ∧ i = .int .i64 k ∧ v = .int .u64 (Crc.val (s.take k) : Nat)) (fun _ i => s.length - (intOf i).toNat)
  case atStart => exact ⟨0, by omega, rfl, by simp [Crc.val]⟩
  case round =>
    obtain ⟨k, hk, rfl, rfl⟩ := hrel
    by_cases hlt : k < s.length
    · have hv := Crc.val_lt (s.take k)
      rw [List.length_take, Nat.min_eq_left hk] at hv
      have hor := or_byte (Crc.val (s.take k)) s[k].toNat k hv (by have := s[k].toNat_lt; omega) (by omega)
      rw [← val_take_succ s k hlt] at hor
      have HOR := Lib.hid hor
      clear hor hv
      go_wp2_with fail
      go_round
      case rel => exact ⟨k + 1, by omega, by go_num, by rw [HOR.out]⟩
      case measure => simp [intOf]; omega
    · go_wp2_with fail
      go_ret2
      have hkl : k = s.length := by omega
      exact ⟨by rw [hkl, List.take_length]; rfl, rfl⟩
set_option maxRecDepth 100000 in
theorem otext_ok (s : List UInt8) (w : World) (h : s.length ≤ 65535) :
    Calls Tryz.prog 110 #[.string (bs s)] w fun e w' => e = .returned (.tuple #[.string (bs (Crc.le 2 s.length ++ s)), .int .i64 0]) ∧ Below w.heap.size w w' := by
  go_enter Tryz.func110, Tryz.ntmps110
  go_wp2_with fail
  refine (bytes_any s.length 2 _ (by decide)).mono ?_
  rintro e w1 ⟨rfl, hb⟩
  go_wp2_with fail
  go_ret2
  exact ⟨rfl, hb⟩
set_option maxRecDepth 100000 in
theorem otext_no (s : List UInt8) (w : World) (h : 65535 < s.length) :
    Calls Tryz.prog 110 #[.string (bs s)] w fun e w' => e = .returned (.tuple #[.string (bs []), .int .i64 5]) ∧ w = w' := by
  go_enter Tryz.func110, Tryz.ntmps110
  go_wp2_with fail
  go_ret2
  exact ⟨rfl, rfl⟩
theorem val_two (s : List UInt8) (h : 2 ≤ s.length) : Crc.val (s.take 2) = s[0].toNat + 256 * s[1].toNat := by
  rw [val_take_succ s 1 (by omega), val_take_succ s 0 (by omega)]
  simp [Crc.val]
def readV (s : List UInt8) : List UInt8 × Nat × Int := match readT s with | none => ([], 0, 6) | some p => (p.1, p.2, 0)
set_option maxRecDepth 100000 in
theorem oread_any (s : List UInt8) (w : World) (hl : s.length ≤ 1099511627776) :
    Calls Tryz.prog 103 #[.string (bs s)] w fun e w' => e = .returned (.tuple #[.string (bs (readV s).1), .int .i64 ((readV s).2.1 : Nat), .int .i64 (readV s).2.2]) ∧ Below w.heap.size w w' := by
  by_cases h2 : s.length < 2
  · have hR : Hid (readV s = ([], 0, 6)) := Lib.hid (by unfold readV readT; rw [if_pos h2])
    rw [hR.out]
    go_enter Tryz.func103, Tryz.ntmps103
    go_wp2_with fail
    go_ret3
    exact ⟨rfl, Below.refl _ _⟩
  · have hv := val_two s (by omega)
    have b0 := s[0].toNat_lt
    have b1 := s[1].toNat_lt
    have hz : (0 : Nat) < s.length := by omega
    have hz1 : (1 : Nat) < s.length := by omega
    have hz2 : (1 : Int) < (s.length : Int) := by omega
    have hz3 : (2 : Int) ≤ (s.length : Int) := by omega
    by_cases h3 : 2 + Crc.val (s.take 2) ≤ s.length
    · have hR : Hid (readV s = ((s.take (2 + Crc.val (s.take 2))).drop 2, 2 + Crc.val (s.take 2), 0)) := Lib.hid (by unfold readV readT; rw [if_neg h2, if_pos h3])
      rw [hR.out]
      rw [hv] at h3 ⊢
      clear hv hR
      go_enter Tryz.func103, Tryz.ntmps103
      go_wp2_with fail
      go_quiet (fail)
      have e : (2 : Int) + (s[0].toNat : Int) + (s[1].toNat : Int) * (256 : Int) = ((2 + (s[0].toNat + 256 * s[1].toNat) : Nat) : Int) := by omega
      simp only [e]
      clear e
      have hn2 : 2 ≤ 2 + (s[0].toNat + 256 * s[1].toNat) := by omega
      generalize hn : 2 + (s[0].toNat + 256 * s[1].toNat) = n at *
      have HN := Lib.hid hn
      clear hn
      have hcut : ∀ W, (Instr.slice 9 (.string (bs s)) (some (.int .i64 2)) (some (.int .i64 (n : Int))) none).run Tryz.prog W = .ok (.string (bs ((s.take n).drop 2))) W := fun W => run_cut Tryz.prog W 9 Tryz.underlying9 s 2 n hn2 h3
      go_wp2_with fail
      go_ret3
      obtain rfl := HN.out
      exact ⟨rfl, below_drawn _ _⟩
    · have hR : Hid (readV s = ([], 0, 6)) := Lib.hid (by unfold readV readT; rw [if_neg h2, if_neg h3])
      rw [hR.out]
      rw [hv] at h3
      clear hv hR
      go_enter Tryz.func103, Tryz.ntmps103
      go_wp2_with fail
      go_quiet (fail)
      go_wp2_with fail
      go_ret3
      exact ⟨rfl, below_drawn _ _⟩
end Go.Proofs.YtoaihngckcbhiaaGreatDoor
namespace Go.Proofs.YtoaihngckcbhiaaGreatDoor
open Go.RowKit Go.Maps
open Wal
theorem strCells_bs (k : List UInt8) : Lib.strCells (bs k) = u8cells k := by unfold Lib.strCells u8cells u8row; rfl
theorem run_append_str_at {P : Program} (w : World) (t u ty e : TypeId) (i : TypeInfo) (ht : P.underlying t = some (.slice e)) (hu : P.underlying u = some .string) (hi : P.info? e = some i) (hz : i.zero = some (.int .u8 0))
    (hsize : i.size = 1) (hby : i.bytes = 1) (v : Value) (n : Nat) (xs : List Value) (hown : w.ownsRow 0 e 1 v n xs) (k : List UInt8) (hl : n + k.length ≤ 140737488355328) :
    ∃ v' w', (Builtin.append_ #[t, u] ty #[v, .string (bs k)]).run P w = .ok v' w' ∧ w'.ownsRow 0 e 1 v' (n + k.length) (xs ++ u8cells k) ∧ w.grownBy w' v.ownBlock ∧
      (v' = .slice none 0 0 ↔ v = .slice none 0 0 ∧ k.length = 0) ∧ (v'.ownBlock = v.ownBlock ∨ v'.ownBlock = some w.heap.size) := by
  have hsz : (bs k).size = k.length := rfl
  obtain ⟨v', w', hr, h2, h3, h4⟩ := Lib.run_append_own_string (P := P) w 0 t u ty e i ht hu hi hz hsize hby v n xs hown (bs k) (by unfold maxLen; rw [hsz]; omega) (by rw [hsz]; omega) (Nat.zero_le _)
  rw [strCells_bs] at h2
  refine ⟨v', w', hr, h2, h3, h4, ?_⟩
  rcases hown.2 with ⟨rfl, rfl⟩ | ⟨g, cap, cur, rfl, _, hg, hnc, hcm, hcs, htake⟩
  · by_cases hk : k.length = 0
    · rw [h4.2 ⟨rfl, hk⟩]; exact .inl rfl
    · have hr' := run_append_nil_string (P := P) w t u ty e i (.int .u8 0) ht hu hi hz (bs k) (by rw [hsz]; omega) (by rw [hsz]; omega) (by rw [hby, hsz]; omega)
      rw [hr] at hr'
      injection hr' with e1 _
      rw [e1]; exact .inr rfl
  · by_cases hroom : n + (bs k).size ≤ cap
    · have hr' := Lib.run_append_room_string (P := P) w t u ty e i ht hu hi hsize g n cap cur hg (bs k) hroom (by omega)
      rw [hr] at hr'
      injection hr' with e1 _
      rw [e1]; exact .inl rfl
    · have hr' := Lib.run_append_grow_string (P := P) w t u ty e i (.int .u8 0) ht hu hi hz ⟨g, 0, none⟩ n cap xs (by rw [hsize]; exact hown.1) (hown.cells (g := g) rfl) (bs k) (by omega) (by rw [hsz]; omega) (by rw [hby]; exact growslice_fits (by omega) (by rw [hsz]; omega))
      rw [hr] at hr'
      injection hr' with e1 _
      rw [e1]; exact .inr rfl
theorem wpList_append_str_at {P : Program} {w : World} {ops : Array Oper} {rest : List Oper} {o : Oper} {a : Act} {Q : Exit → Act → World → Prop} (hgd : o.guard = none) (sl x : Operand) (t u : TypeId)
    (ho : o.op = .call { callee := .builtin .append, args := #[sl, x], argTypes := #[t, u] })
    (e : TypeId) (i : TypeInfo) (ht : P.underlying t = some (.slice e)) (hu : P.underlying u = some .string) (hi : P.info? e = some i) (hz : i.zero = some (.int .u8 0)) (hsize : i.size = 1) (hby : i.bytes = 1)
    (v : Value) (n : Nat) (xs : List Value) (hs : a.eval sl = v) (hown : w.ownsRow 0 e 1 v n xs) (k : List UInt8) (hx : a.eval x = .string (bs k)) (hl : n + k.length ≤ 140737488355328)
    (h : ∀ v' w', w'.ownsRow 0 e 1 v' (n + k.length) (xs ++ u8cells k) → w.grownBy w' v.ownBlock → (v' = .slice none 0 0 ↔ v = .slice none 0 0 ∧ k.length = 0) → (v'.ownBlock = v.ownBlock ∨ v'.ownBlock = some w.heap.size) → wpList P ops Q rest (a.put o.dst v') w') : wpList P ops Q (o :: rest) a w := by
  refine wpList_plain hgd fun K hK => ?_
  obtain ⟨v', w', hr, h2, h3, h4, h5⟩ := run_append_str_at (P := P) w t u o.type e i ht hu hi hz hsize hby v n xs hown k hl
  unfold Oper.wp execOp
  simp only [ho, resolve, invoke, builtin, Sem.run_bind, Sem.run_pure, Result.andThen_ok, List.map_toArray, List.map_cons, List.map_nil, hs, hx, hr]
  exact hK _ _ (h v' w' h2 h3 h4 h5)
set_option maxRecDepth 100000 in
set_option maxHeartbeats 1000000 in
theorem bwriteS_any {w : World} {b : Nat} {l : List UInt8} {fp : Nat → Prop} (h : BuiltAt w b l fp) (k : List UInt8) (hlen : l.length + k.length ≤ 1099511627776) :
    Calls Tryz.prog 147 #[.pointer (some ⟨b, 0, none⟩), .string (bs k)] w fun e w' => e = .returned (.tuple #[.int .i64 (k.length : Int), .nilIface]) ∧ ∃ fp', BuiltAt w' b (l ++ k) fp' ∧ Upd fp w w' ∧ Stays fp fp' w := by
  obtain ⟨p, v, hb, hp, hown, hne, hnil0, rfl⟩ := h
  have HNIL := Lib.hid hnil0
  clear hnil0
  obtain ⟨i0, hi, hz0, hz1, hz2⟩ := info_parts byte_info
  go_enter Tryz.func147, Tryz.ntmps147
  go_wp2_with fail
  refine (copyCheck_any b p v _ hb hp).mono ?_
  rintro e w1 ⟨rfl, hb1, hu1⟩
  have hblt : b < w.heap.size := (Array.getElem?_eq_some_iff.1 hb).1
  have hown1 : w1.ownsRow 0 5 1 v l.length (u8cells l) := ownsRow_upd hown hu1 (fun q hq e => hne (by rw [hq, e]))
  have c1 : w1.cell? ⟨b, 1, none⟩ = some v := by rw [Lib.cell_of_heap hb1]; rfl
  go_wp2_with (at_builtin; refine wpList_append_str_at rfl _ _ 176 9 rfl 5 i0 Tryz.underlying176 Tryz.underlying9 hi hz0 hz1 hz2 _ _ _ rfl hown1 k rfl ?c3 ?_)
  case c3 => omega
  intro v' w2 hown' hgrow hnil hat
  have HN2 := Lib.hid hnil
  clear hnil
  have hb2 : w2.heap[b]? = some (.cells #[.pointer (some ⟨b, 0, none⟩), v] 178) := by
    rw [hgrow.block b (Nat.lt_of_lt_of_le hblt hu1.size) (fun e => hne e.symm)]
    exact hb1
  have d1 : w2.cell? ⟨b, 1, none⟩ = some v := by rw [Lib.cell_of_heap hb2]; rfl
  have f1 : w2.frozen? ⟨b, 1, none⟩ = false := Lib.frozen_of_heap hb2 1
  have hv' : v'.ownBlock ≠ some b := by
    rcases hat with hat | hat
    · rw [hat]; exact hne
    · rw [hat]; intro e; have := Option.some.inj e; have := hu1.size; omega
  have HN3 : Hid (l ++ k = [] → v' = .slice none 0 0) := Lib.hid (fun e => by
    obtain ⟨e1, e2⟩ := List.append_eq_nil_iff.1 e
    exact HN2.out.2 ⟨HNIL.out e1, by rw [e2]⟩)
  obtain ⟨ao, n', cap, rfl⟩ : ∃ ao n' cap, v' = .slice ao n' cap := by
    rcases hown'.2 with ⟨hv, _⟩ | ⟨g, cap, cur, hv, _⟩
    · exact ⟨_, _, _, hv⟩
    · exact ⟨_, _, _, hv⟩
  clear c1
  go_wp2_with fail
  go_ret2
  have hu2 : Upd (fun k => k = b ∨ v.ownBlock = some k) w w2 := (hu1.mono (fun i e => Or.inl e)).trans (Upd.of_grownBy (F := fun k => k = b ∨ v.ownBlock = some k) hgrow (fun q e => .inr e)) (fun i e => .inl e)
  have hu3 := hu2.setCell (p := ⟨b, 1, none⟩) (.inl (.inl rfl)) (.slice ao n' cap)
  refine ⟨rfl, fun q => q = b ∨ (Value.slice ao n' cap).ownBlock = some q, ⟨some ⟨b, 0, none⟩, .slice ao n' cap, heap_setCell_same w2 b 1 _ _ _ hb2, .inr rfl, ?_, hv', HN3.out, rfl⟩, hu3, ?_⟩
  · rw [List.length_append, u8cells_append]
    exact ownsRow_upd hown' ((Upd.refl (fun q => q = b) w2).setCell (p := ⟨b, 1, none⟩) (.inl rfl) _) (fun q hq e => hv' (by rw [hq, e]))
  · rintro q (rfl | hq)
    · exact .inl (.inl rfl)
    · rcases hat with hat | hat
      · exact .inl (.inr (by rw [← hat]; exact hq))
      · rw [hat] at hq
        have := Option.some.inj hq
        exact .inr (by have := hu1.size; omega)
def TextsAt (w : World) (a : Option Addr) (l : List (List UInt8)) : Prop := ∀ i, (h : i < l.length) → ∃ p : Addr, a = some p ∧ w.cell? (p.add i) = some (.string (bs l[i]))
theorem TextsAt.below {w w' : World} {a : Option Addr} {l : List (List UInt8)} (h : TextsAt w a l) (hb : Below w.heap.size w w') : TextsAt w' a l := fun i hi => by
  obtain ⟨p, hp, h1⟩ := h i hi
  exact ⟨p, hp, (hb.cell (block_lt_of_cell h1)).trans h1⟩
theorem TextsAt.index {w : World} {a : Option Addr} {l : List (List UInt8)} (h : TextsAt w a l) (cap k : Nat) (hk : k < l.length) :
    ∃ q : Addr, (∀ W, (Instr.indexAt 30 (.slice a l.length cap) (.int .i64 (k : Int))).run Tryz.prog W = .ok (.pointer (some q)) W) ∧ w.cell? q = some (.string (bs l[k])) := by
  obtain ⟨p, rfl, h1⟩ := h k hk
  refine ⟨p.add k, fun W => ?_, h1⟩
  have := run_index_slice Tryz.prog 30 9 Tryz.underlying30 1 (by kernel_rfl) p l.length cap k hk W
  rw [Nat.mul_one] at this
  exact this
def rowLen (l : List (List UInt8)) : Nat := 2 + (l.map fun s => 2 + s.length).sum
theorem rowLen_snoc (l : List (List UInt8)) (k : Nat) (h : k < l.length) : rowLen (l.take (k + 1)) = rowLen (l.take k) + (2 + l[k].length) := by
  unfold rowLen
  rw [List.take_succ_eq_append_getElem h, List.map_append, List.sum_append]
  simp; omega
theorem rowLen_take (l : List (List UInt8)) (k : Nat) : rowLen (l.take k) ≤ rowLen l := by
  unfold rowLen
  conv => rhs; rw [← List.take_append_drop k l, List.map_append, List.sum_append]
  omega
theorem textsE_length {l : List (List UInt8)} {s : List UInt8} (h : textsE l = some s) : 2 + s.length = rowLen l := by
  induction l generalizing s with
  | nil => simp [textsE] at h; subst h; rfl
  | cons x l ih =>
    simp only [textsE] at h
    cases h1 : textE x with
    | none => rw [h1] at h; cases h
    | some a =>
      cases h2 : textsE l with
      | none => rw [h1, h2] at h; cases h
      | some b =>
        rw [h1, h2] at h
        simp at h
        subst h
        have h3 := ih h2
        unfold textE at h1
        split at h1
        · simp at h1
          subst h1
          simp [rowLen, Crc.le_length] at h3 ⊢
          omega
        · cases h1
def rowV (l : List (List UInt8)) : List UInt8 × Int := match rowE l with | none => ([], 5) | some s => (s, 0)
theorem textsE_snoc {l : List (List UInt8)} {k : Nat} (h : k < l.length) {s : List UInt8} (hs : textsE (l.take k) = some s) : textsE (l.take (k + 1)) = (textE l[k]).map (s ++ ·) := by
  rw [List.take_succ_eq_append_getElem h, textsE_append, hs]
  simp only [Option.bind_some, textsE]
  cases textE l[k] with
  | none => rfl
  | some x => simp
theorem textsE_none {l : List (List UInt8)} {k : Nat} (h : k < l.length) (hk : 65535 < l[k].length) : textsE l = none := by
  induction l generalizing k with
  | nil => simp at h
  | cons x l ih =>
    simp only [textsE]
    cases k with
    | zero =>
      have : textE x = none := by unfold textE; rw [if_neg (by simp at hk; omega)]
      rw [this]; rfl
    | succ k =>
      rw [ih (k := k) (by simpa using h) (by simpa using hk)]
      cases textE x <;> rfl
set_option maxRecDepth 100000 in
set_option maxHeartbeats 2000000 in
theorem orow_any (l : List (List UInt8)) (a : Option Addr) (cap : Nat) (w : World) (hl : TextsAt w a l) (hlen : l.length ≤ maxLen) (hsum : rowLen l ≤ 1000000000) :
    Calls Tryz.prog 111 #[.slice a l.length cap] w fun e w' => e = .returned (.tuple #[.string (bs (rowV l).1), .int .i64 (rowV l).2]) ∧ Below w.heap.size w w' := by
  unfold maxLen at hlen
  by_cases hbig : 65535 < l.length
  · have hR : Hid (rowV l = ([], 5)) := Lib.hid (by unfold rowV rowE; rw [if_neg (by omega)])
    rw [hR.out]
    clear hl
    go_enter Tryz.func111, Tryz.ntmps111
    go_wp2_with fail
    go_ret2
    exact ⟨rfl, Below.refl _ _⟩
  · have HL := Lib.hid hl
    have hb0 : Below w.heap.size w (w.alloc (.cells #[.pointer none, .slice none 0 0] 178)) := (Below.refl _ w).alloc (Nat.le_refl _) _
    have HB0 := Lib.hid hb0
    have HBU := Lib.hid (BuiltAt.made w)
    have HSUM := Lib.hid hsum
    clear hl hb0 hsum
    go_enter Tryz.func111, Tryz.ntmps111
    go_wp2_with fail
    refine (bytes_any l.length 2 _ (by decide)).mono ?_
    rintro e w1 ⟨rfl, hb⟩
    have hbu := HBU.out.upd (Upd.of_below (F := fun _ => False) hb) (fun _ _ f => f)
    have HBU1 := Lib.hid hbu
    have HB1 := Lib.hid (HB0.out.trans (hb.mono (by rw [World.size_alloc]; omega)))
    clear hb hbu
    go_wp2_with fail
    refine (bwriteS_any HBU1.out (Crc.le 2 l.length) (by simp [Crc.le_length])).mono ?_
    rintro e w2 ⟨rfl, fp2, h1, h2, h3⟩
    rw [List.nil_append] at h1
    have hfp : ∀ q, fp2 q → w.heap.size ≤ q := fun q hq => by
      rcases h3 q hq with h | h
      · rcases h with h | h
        · omega
        · simp [Value.ownBlock] at h
      · have := HB1.out.size; omega
    have HB2 := Lib.hid (below_upd HB1.out h2 (fun i hi => by rcases hi with h | h; omega; simp [Value.ownBlock] at h) HB1.out.size)
    have HBU2 := Lib.hid h1
    have HFP := Lib.hid hfp
    clear h1 h2 h3 hfp
    go_wp2_with fail
    go_loopw [19] (fun i wr => ∃ (k : Nat) (S : List UInt8) (fp : Nat → Prop), k ≤ l.length ∧ i = .int .i64 k ∧ textsE (l.take k) = some S ∧ BuiltAt wr w.heap.size (Crc.le 2 l.length ++ S) fp ∧ (∀ q, fp q → w.heap.size ≤ q) ∧ Below w.heap.size w wr) (fun i _ => l.length - (intOf i).toNat)
    case atStart => exact ⟨0, [], fp2, by omega, rfl, rfl, by rw [List.append_nil]; exact HBU2.out, HFP.out, HB2.out⟩
    case round =>
      clear HBU HBU1 HBU2 HB0 HB1 HB2 HFP
      obtain ⟨k, S, fp, hk, rfl, hS, hbu, hfp, hb⟩ := hrel
      have HS := Lib.hid hS
      have HBU := Lib.hid hbu
      have HFP := Lib.hid hfp
      have HB := Lib.hid hb
      clear hS hbu hfp hb
      by_cases hlt : k < l.length
      · obtain ⟨q, hidx, hq⟩ := (HL.out.below HB.out).index cap k hlt
        have hlk : rowLen (l.take (k + 1)) = rowLen (l.take k) + (2 + l[k].length) := rowLen_snoc l k hlt
        have hl1 := rowLen_take l (k + 1)
        have hl2 := textsE_length HS.out
        have hl3 := HSUM.out
        have HSN := Lib.hid (textsE_snoc hlt HS.out)
        by_cases hbig2 : 65535 < l[k].length
        · have hR : Hid (rowV l = ([], 5)) := Lib.hid (by unfold rowV rowE; rw [if_pos (by omega), textsE_none hlt hbig2]; rfl)
          clear hlk hl1 hl2 hl3
          generalize l[k] = x at *
          go_wp2_with fail
          refine (otext_no x _ hbig2).mono ?_
          rintro e w3 ⟨rfl, rfl⟩
          go_wp2_with fail
          go_ret2
          rw [hR.out]
          exact ⟨rfl, HB.out⟩
        · have hxl : l[k].length ≤ 65535 := by omega
          have hle : S.length + l[k].length ≤ 1000000000 := by omega
          clear hlk hl1 hl2 hl3 hbig2
          generalize l[k] = x at *
          go_wp2_with fail
          refine (otext_ok x _ hxl).mono ?_
          rintro e w3 ⟨rfl, hb3⟩
          have HBU3 := Lib.hid (HBU.out.upd (Upd.of_below (F := fun _ => False) hb3) (fun _ _ f => f))
          have HB3 := Lib.hid (HB.out.trans (hb3.mono HB.out.size))
          clear hb3 hq
          go_wp2_with fail
          refine (bwriteS_any HBU3.out (Crc.le 2 x.length ++ x) (by simp [Crc.le_length]; omega)).mono ?_
          rintro e w4 ⟨rfl, fp4, h1, h2, h3⟩
          have HBU4 := Lib.hid h1
          have HFP4 := Lib.hid (show ∀ q, fp4 q → w.heap.size ≤ q from fun q hq => by
            rcases h3 q hq with h | h
            · exact HFP.out q h
            · exact Nat.le_trans HB3.out.size h)
          have HB4 := Lib.hid (below_upd HB3.out h2 HFP.out HB3.out.size)
          clear h1 h2 h3
          go_wp2_with fail
          go_roundw
          case rel => exact ⟨k + 1, S ++ (Crc.le 2 x.length ++ x), fp4, by omega, by go_num, by rw [HSN.out]; unfold textE; rw [if_pos hxl]; rfl, by rw [← List.append_assoc]; exact HBU4.out, HFP4.out, HB4.out⟩
          case measure => simp [intOf]; omega
      · obtain rfl : k = l.length := by omega
        go_wp2_with fail
        refine (bstring_any HBU.out).mono ?_
        rintro e w3 ⟨rfl, hu⟩
        have HB3 := Lib.hid (below_upd HB.out hu HFP.out HB.out.size)
        have hR : Hid (rowV l = (Crc.le 2 l.length ++ S, 0)) := Lib.hid (by
          have h := HS.out
          rw [List.take_length] at h
          unfold rowV rowE
          rw [if_pos (by omega), h]; rfl)
        clear hu
        go_wp2_with fail
        go_ret2
        rw [hR.out]
        exact ⟨rfl, HB3.out⟩
end Go.Proofs.YtoaihngckcbhiaaGreatDoor
namespace Go.Proofs.YtoaihngckcbhiaaGreatDoor
open Go.RowKit Go.Maps
open Wal
theorem run_cut_from (P : Program) (W : World) (t : TypeId) (hu : P.underlying t = some .string) (s : List UInt8) (lo : Nat) (h1 : lo ≤ s.length) :
    (Instr.slice t (.string (bs s)) (some (.int .i64 (lo : Int))) none none).run P W = .ok (.string (bs (s.drop lo))) W := by
  have g2 : (lo : Int) ≤ (s.length : Int) := by omega
  simp [Instr.slice, run_underlying hu, Instr.sliceBounds, run_sliceBound, go_sem, g2]
structure Rding (w : World) (p q : Nat) (s : List UInt8) (l : List (List UInt8)) (fp : Nat → Prop) : Prop where
  left : w.heap[p]? = some (.cells #[.string (bs s)] 9)
  ne : p ≠ q
  row : ∃ v, w.heap[q]? = some (.cells #[v] 30) ∧ w.ownsRow 0 9 1 v l.length (strCells l) ∧ v.ownBlock ≠ some p ∧ v.ownBlock ≠ some q ∧ fp = fun k => k = p ∨ k = q ∨ v.ownBlock = some k
theorem rdDone {w w1 w2 : World} {p q gg cap2 : Nat} {v : Value} {s0 t : List UInt8} {l : List (List UInt8)} {ob : Obj} (hne : p ≠ q) (hb : Below w.heap.size w w1)
    (hp : w1.heap[p]? = some (.cells #[.string (bs s0)] 9)) (hq : w1.heap[q]? = some (.cells #[v] 30)) (hvp : v.ownBlock ≠ some p) (hvq : v.ownBlock ≠ some q)
    (hgrow : ((w1.alloc ob).drew).grownBy w2 v.ownBlock) (hown : w2.ownsRow 0 9 1 (.slice (some ⟨gg, 0, none⟩) (l.length + 1) cap2) (l.length + 1) (strCells l ++ [.string (bs t)]))
    (hat : v.ownBlock = some gg ∨ gg = w1.heap.size + 1) (s : List UInt8) (hpl : p < w.heap.size) (hql : q < w.heap.size) :
    Upd (fun k => k = p ∨ k = q ∨ v.ownBlock = some k) w ((w2.setCell ⟨q, 0, none⟩ (.slice (some ⟨gg, 0, none⟩) (l.length + 1) cap2)).setCell ⟨p, 0, none⟩ (.string (bs s))) ∧
    Stays (fun k => k = p ∨ k = q ∨ v.ownBlock = some k) (fun k => k = p ∨ k = q ∨ (Value.slice (some ⟨gg, 0, none⟩) (l.length + 1) cap2).ownBlock = some k) w ∧
    Rding ((w2.setCell ⟨q, 0, none⟩ (.slice (some ⟨gg, 0, none⟩) (l.length + 1) cap2)).setCell ⟨p, 0, none⟩ (.string (bs s))) p q s (l ++ [t]) (fun k => k = p ∨ k = q ∨ (Value.slice (some ⟨gg, 0, none⟩) (l.length + 1) cap2).ownBlock = some k) := by
  have hs1 := hb.size
  have hpl1 : p < w1.heap.size := by omega
  have hql1 : q < w1.heap.size := by omega
  have ha : Below w1.heap.size w1 (w1.alloc ob).drew := ((Below.refl _ _).alloc (Nat.le_refl _) _).drew
  have u1 : Upd (fun k => k = p ∨ k = q ∨ v.ownBlock = some k) w w1 := Upd.of_below hb
  have u2 : Upd (fun k => k = p ∨ k = q ∨ v.ownBlock = some k) w (w1.alloc ob).drew := u1.trans (G := fun _ => False) (Upd.of_below ha) (fun _ f => f.elim)
  have u3 : Upd (fun k => k = p ∨ k = q ∨ v.ownBlock = some k) w w2 := u2.trans (Upd.of_grownBy (F := fun k => v.ownBlock = some k) hgrow (fun k e => e)) (fun k e => .inl (.inr (.inr e)))
  have hsz : (w1.alloc ob).drew.heap.size = w1.heap.size + 1 := by rw [World.size_drew, World.size_alloc]
  have hp2 : w2.heap[p]? = some (.cells #[.string (bs s0)] 9) := (hgrow.block p (by omega) (Ne.symm hvp)).trans ((ha.block p hpl1).trans hp)
  have hq2 : w2.heap[q]? = some (.cells #[v] 30) := (hgrow.block q (by omega) (Ne.symm hvq)).trans ((ha.block q hql1).trans hq)
  have hgp : gg ≠ p := fun e => by
    rcases hat with hat | hat
    · exact hvp (by rw [hat, e])
    · omega
  have hgq : gg ≠ q := fun e => by
    rcases hat with hat | hat
    · exact hvq (by rw [hat, e])
    · omega
  have hq3 := heap_setCell_same w2 q 0 _ _ (.slice (some ⟨gg, 0, none⟩) (l.length + 1) cap2) hq2
  have c1 : Upd (fun k => k = q) w2 (w2.setCell ⟨q, 0, none⟩ (.slice (some ⟨gg, 0, none⟩) (l.length + 1) cap2)) := (Upd.refl (fun k => k = q) w2).setCell (p := ⟨q, 0, none⟩) (.inl rfl) _
  have c2 : Upd (fun k => k = p) (w2.setCell ⟨q, 0, none⟩ (.slice (some ⟨gg, 0, none⟩) (l.length + 1) cap2)) ((w2.setCell ⟨q, 0, none⟩ (.slice (some ⟨gg, 0, none⟩) (l.length + 1) cap2)).setCell ⟨p, 0, none⟩ (.string (bs s))) := (Upd.refl (fun k => k = p) _).setCell (p := ⟨p, 0, none⟩) (.inl rfl) _
  have hp3 := (c1.block p (by have := hgrow.size; omega) hne).trans hp2
  have hz : q < w2.heap.size := by have := hgrow.size; omega
  refine ⟨(u3.setCell (p := ⟨q, 0, none⟩) (.inl (.inr (.inl rfl))) _).setCell (p := ⟨p, 0, none⟩) (.inl (.inl rfl)) _, ?_, ⟨heap_setCell_same _ p 0 _ _ _ hp3, hne, .slice (some ⟨gg, 0, none⟩) (l.length + 1) cap2, (c2.block q (by have := c1.size; omega) (Ne.symm hne)).trans hq3, ?_, fun e => hgp (by simpa [Value.ownBlock] using e), fun e => hgq (by simpa [Value.ownBlock] using e), rfl⟩⟩
  · rintro k (rfl | rfl | hk)
    · exact .inl (.inl rfl)
    · exact .inl (.inr (.inl rfl))
    · simp [Value.ownBlock] at hk
      subst hk
      rcases hat with hat | hat
      · exact .inl (.inr (.inr hat))
      · exact .inr (by omega)
  · rw [List.length_append, strCells_snoc]
    exact ownsRow_upd (ownsRow_upd hown c1 (fun g hg e => hgq (by simp [Value.ownBlock] at hg; omega))) c2 (fun g hg e => hgp (by simp [Value.ownBlock] at hg; omega))
def RdPost (w : World) (p q : Nat) (s : List UInt8) (l : List (List UInt8)) (fp : Nat → Prop) (e : Ending) (w' : World) : Prop :=
  ∃ fp', Upd fp w w' ∧ Stays fp fp' w ∧ match readT s with
    | none => e = .returned (.int .i64 6) ∧ Rding w' p q s l fp'
    | some (t, n) => e = .returned (.int .i64 0) ∧ Rding w' p q (s.drop n) (l ++ [t]) fp'
set_option maxRecDepth 100000 in
set_option maxHeartbeats 4000000 in
theorem rdNext_any {w : World} {p q : Nat} {s : List UInt8} {l : List (List UInt8)} {fp : Nat → Prop} (h : Rding w p q s l fp) (hs : s.length ≤ 1000000000) (hl : l.length ≤ 1000000) :
    Calls Tryz.prog 142 #[.pointer (some ⟨p, 0, none⟩), .pointer (some ⟨q, 0, none⟩)] w fun e w' => RdPost w p q s l fp e w' := by
  obtain ⟨hp, hne, v, hq, hown, hvp, hvq, rfl⟩ := h
  have hpl : p < w.heap.size := (Array.getElem?_eq_some_iff.1 hp).1
  have hql : q < w.heap.size := (Array.getElem?_eq_some_iff.1 hq).1
  have cp : w.cell? ⟨p, 0, none⟩ = some (.string (bs s)) := by rw [cell_of_row w p _ _ _ _ hp]; rfl
  have cq : w.cell? ⟨q, 0, none⟩ = some v := by rw [cell_of_row w q _ _ _ _ hq]; rfl
  have fp0 := frozen_of_row w p 0 _ _ hp
  have fq0 := frozen_of_row w q 0 _ _ hq
  unfold RdPost
  cases hR : readT s with
  | none =>
    have hV : readV s = ([], 0, 6) := by unfold readV; rw [hR]
    have HP := Lib.hid hp; have HQ := Lib.hid hq; have HO := Lib.hid hown
    have HV := Lib.hid hV
    clear hp hq hown hR hV
    go_enter Tryz.func142, Tryz.ntmps142
    go_wp2_with fail
    refine (oread_any s _ (by omega)).mono ?_
    rw [HV.out]
    rintro e w1 ⟨rfl, hb⟩
    have hu : Upd (fun k => k = p ∨ k = q ∨ v.ownBlock = some k) w w1 := Upd.of_below hb
    have HU := Lib.hid hu
    have HB := Lib.hid hb
    clear hu hb
    go_wp2_with fail
    go_ret
    exact ⟨_, HU.out, fun _ h => .inl h, rfl, (HB.out.block p hpl).trans HP.out, hne, v, (HB.out.block q hql).trans HQ.out, ownsRow_upd HO.out (Upd.of_below (F := fun _ => False) HB.out) (fun _ _ f => f), hvp, hvq, rfl⟩
  | some r =>
    obtain ⟨t, n⟩ := r
    obtain ⟨_, hn1, hn2⟩ := readT_some hR
    have hV : readV s = (t, n, 0) := by unfold readV; rw [hR]
    have HP := Lib.hid hp; have HQ := Lib.hid hq; have HO := Lib.hid hown
    have HV := Lib.hid hV
    clear hp hq hown hR hV
    go_enter Tryz.func142, Tryz.ntmps142
    go_wp2_with fail
    refine (oread_any s _ (by omega)).mono ?_
    rw [HV.out]
    rintro e w1 ⟨rfl, hb⟩
    have HB := Lib.hid hb
    have hp1 := (hb.block p hpl).trans HP.out
    have hq1 := (hb.block q hql).trans HQ.out
    have hown1 := ownsRow_upd HO.out (Upd.of_below (F := fun _ => False) hb) (fun _ _ f => f)
    have cp : w1.cell? ⟨p, 0, none⟩ = some (.string (bs s)) := by rw [cell_of_row w1 p _ _ _ _ hp1]; rfl
    have cq : w1.cell? ⟨q, 0, none⟩ = some v := by rw [cell_of_row w1 q _ _ _ _ hq1]; rfl
    have fp0 := frozen_of_row w1 p 0 _ _ hp1
    have fq0 := frozen_of_row w1 q 0 _ _ hq1
    have hpl1 : p < w1.heap.size := (Array.getElem?_eq_some_iff.1 hp1).1
    have hql1 : q < w1.heap.size := (Array.getElem?_eq_some_iff.1 hq1).1
    have HP1 := Lib.hid hp1; have HQ1 := Lib.hid hq1; have HO1 := Lib.hid hown1
    have kk := fun (ob : Obj) => And.intro (((((Below.refl w1.heap.size w1).alloc (Nat.le_refl _) ob).drew).cell (p := ⟨p, 0, none⟩) hpl1).trans cp) (((((Below.refl w1.heap.size w1).alloc (Nat.le_refl _) ob).drew).cell (p := ⟨q, 0, none⟩) hql1).trans cq)
    have hcut : ∀ W, (Instr.slice 9 (.string (bs s)) (some (.int .i64 (n : Int))) none none).run Tryz.prog W = .ok (.string (bs (s.drop n))) W := fun W => run_cut_from Tryz.prog W 9 Tryz.underlying9 s n hn1
    obtain ⟨i0, hi0, hz0, hz1, hz2⟩ := info_parts str_info
    clear hb hp1 hq1 hown1
    go_wp2_with fail
    go_region_law
      ((refine step_append_lies _ (by rfl) _ _ _ (by rfl) 0 9 i0 _ 1 16 Tryz.underlying30 hi0 hz0 hz1 hz2 (by rfl) (by omega) v l.length (strCells l) (by rfl) ((HO1.out.alloc _).drew) ⟨w1.heap.size, 0, none⟩ 1 1 [.string (bs t)] (by rfl) (by rfl) (World.news_of_block (cs := #[.string (bs t)]) (t := 9) (fr := (0, 0)) (heap_alloc_new w1 _)) (fun u hu => by simp at hu; subst hu; rfl) (by omega) (by unfold maxLen; omega) (by omega) (Nat.zero_le _) (w1.heap.size + 1) (by simp) ?_; intro gg cap2 w2 hown2 hgrow hat hlt2; have hcp2 := (hgrow.cell_far ⟨p, 0, none⟩ (by show p < (w1.alloc _).heap.size; rw [World.size_alloc]; omega) (Ne.symm hvp)).trans (kk _).1; have hcq2 := (hgrow.cell_far ⟨q, 0, none⟩ (by show q < (w1.alloc _).heap.size; rw [World.size_alloc]; omega) (Ne.symm hvq)).trans (kk _).2; have hfp2 := (hgrow.frozen_far ⟨p, 0, none⟩ (by show p < (w1.alloc _).heap.size; rw [World.size_alloc]; omega) (Ne.symm hvp)).trans (((((Below.refl w1.heap.size w1).alloc (Nat.le_refl _) _).drew).frozen (p := ⟨p, 0, none⟩) hpl1).trans fp0); have hfq2 := (hgrow.frozen_far ⟨q, 0, none⟩ (by show q < (w1.alloc _).heap.size; rw [World.size_alloc]; omega) (Ne.symm hvq)).trans (((((Below.refl w1.heap.size w1).alloc (Nat.le_refl _) _).drew).frozen (p := ⟨q, 0, none⟩) hql1).trans fq0)))
    all_goals
      have HD := Lib.hid (rdDone hne HB.out HP1.out HQ1.out hvp hvq hgrow hown2 hat (s.drop n) hpl hql)
      clear hown2 hgrow hat hcp2 hcq2 hfp2 hfq2
      go_wp2_with fail
      go_ret
      exact ⟨_, HD.out.1, HD.out.2.1, rfl, HD.out.2.2⟩
def RowPost (w : World) (s : List UInt8) (e : Ending) (w' : World) : Prop :=
  match readRow s with
  | none => e = .returned (.tuple #[.slice none 0 0, .int .i64 7]) ∧ Below w.heap.size w w'
  | some l => ∃ v, e = .returned (.tuple #[v, .int .i64 0]) ∧ w'.ownsRow 0 9 1 v l.length (strCells l) ∧ Below w.heap.size w w' ∧ ∀ g, v.ownBlock = some g → w.heap.size ≤ g
theorem rowPost_none {w w' : World} {s : List UInt8} {e : Ending} (h : readRow s = none) (he : e = .returned (.tuple #[.slice none 0 0, .int .i64 7])) (hb : Below w.heap.size w w') : RowPost w s e w' := by
  unfold RowPost; rw [h]; exact ⟨he, hb⟩
theorem rowPost_some {w w' : World} {s : List UInt8} {l : List (List UInt8)} {e : Ending} {v : Value} (h : readRow s = some l) (he : e = .returned (.tuple #[v, .int .i64 0])) (ho : w'.ownsRow 0 9 1 v l.length (strCells l)) (hb : Below w.heap.size w w') (hg : ∀ g, v.ownBlock = some g → w.heap.size ≤ g) : RowPost w s e w' := by
  unfold RowPost; rw [h]; exact ⟨v, he, ho, hb, hg⟩
theorem rd_step {k j : Nat} {s S t : List UInt8} {n : Nat} {l : List (List UInt8)} (hj : j < k) (h : readTs k s = (readTs (k - j) S).map fun q => (l ++ q.1, q.2)) (hr : readT S = some (t, n)) :
    readTs k s = (readTs (k - (j + 1)) (S.drop n)).map fun q => ((l ++ [t]) ++ q.1, q.2) := by
  rw [h, show k - j = (k - (j + 1)) + 1 by omega]
  simp only [readTs, hr, Option.bind_some, Option.map_map]
  congr 1
  funext q
  simp
theorem rd_none {k j : Nat} {s S : List UInt8} {l : List (List UInt8)} (hj : j < k) (h : readTs k s = (readTs (k - j) S).map fun q => (l ++ q.1, q.2)) (hr : readT S = none) : readTs k s = none := by
  rw [h, show k - j = (k - (j + 1)) + 1 by omega]
  simp [readTs, hr]
theorem rdStart (w : World) (n' : Nat) (s S : List UInt8) :
    Rding ((((w.alloc (.cells #[.string (bs s)] 9)).alloc (.cells #[.slice none 0 0] 30)).drewN n').setCell ⟨w.heap.size, 0, none⟩ (.string (bs S))) w.heap.size (w.heap.size + 1) S [] (fun k => k = w.heap.size ∨ k = w.heap.size + 1 ∨ (Value.slice none 0 0).ownBlock = some k) ∧
    Below w.heap.size w ((((w.alloc (.cells #[.string (bs s)] 9)).alloc (.cells #[.slice none 0 0] 30)).drewN n').setCell ⟨w.heap.size, 0, none⟩ (.string (bs S))) := by
  have ha := ((Below.refl (w.heap.size + 1) (w.alloc (.cells #[.string (bs s)] 9))).alloc (by rw [World.size_alloc]; omega) (.cells #[.slice none 0 0] 30))
  have e1 : (((w.alloc (.cells #[.string (bs s)] 9)).alloc (.cells #[.slice none 0 0] 30)).drewN n').heap[w.heap.size]? = some (.cells #[.string (bs s)] 9) := (ha.block w.heap.size (by omega)).trans (heap_alloc_new w _)
  have e2 : (((w.alloc (.cells #[.string (bs s)] 9)).alloc (.cells #[.slice none 0 0] 30)).drewN n').heap[w.heap.size + 1]? = some (.cells #[.slice none 0 0] 30) := by
    have := heap_alloc_new (w.alloc (.cells #[.string (bs s)] 9)) (.cells #[.slice none 0 0] 30)
    rw [World.size_alloc] at this
    exact this
  have c1 : Upd (fun k => k = w.heap.size) (((w.alloc (.cells #[.string (bs s)] 9)).alloc (.cells #[.slice none 0 0] 30)).drewN n') ((((w.alloc (.cells #[.string (bs s)] 9)).alloc (.cells #[.slice none 0 0] 30)).drewN n').setCell ⟨w.heap.size, 0, none⟩ (.string (bs S))) := (Upd.refl (fun k => k = w.heap.size) _).setCell (p := ⟨w.heap.size, 0, none⟩) (.inl rfl) _
  refine ⟨⟨heap_setCell_same _ w.heap.size 0 _ _ _ e1, by omega, .slice none 0 0, (c1.block _ (Array.getElem?_eq_some_iff.1 e2).1 (by omega)).trans e2, ?_, by simp [Value.ownBlock], by simp [Value.ownBlock], rfl⟩, ?_⟩
  · show World.ownsRow _ 0 _ 1 (.slice none 0 0) 0 (strCells [])
    have e : strCells [] = [] := by unfold strCells; rfl
    rw [e]
    exact World.ownsRow_nil _ _ _ _
  · exact ((((Below.refl _ w).alloc (Nat.le_refl _) _).alloc (by rw [World.size_alloc]; omega) _).trans ((below_drawn _ n').mono (by rw [World.size_alloc, World.size_alloc]; omega))).setCell (p := ⟨w.heap.size, 0, none⟩) (Nat.le_refl _) _
set_option maxRecDepth 100000 in
set_option maxHeartbeats 4000000 in
theorem readRow_any (s : List UInt8) (w : World) (hs : s.length ≤ 1000000000) :
    Calls Tryz.prog 104 #[.string (bs s)] w fun e w' => RowPost w s e w' := by
  by_cases h2 : s.length < 2
  · have hR : Hid (readRow s = none) := Lib.hid (by unfold readRow; rw [if_pos h2])
    go_enter Tryz.func104, Tryz.ntmps104
    go_wp2_with fail
    exact bodyPost_ret (v := .tuple #[.slice none 0 0, .int .i64 7]) (by simp [results, Tryz.results104, go_sem]) rfl (rowPost_none hR.out rfl (((Below.refl _ w).alloc (Nat.le_refl _) _).alloc (by rw [World.size_alloc]; omega) _))
  · have hv := val_two s (by omega)
    have b0 := s[0].toNat_lt
    have b1 := s[1].toNat_lt
    have hz : (0 : Nat) < s.length := by omega
    have hz1 : (1 : Nat) < s.length := by omega
    have hz2 : (1 : Int) < (s.length : Int) := by omega
    have hz3 : (2 : Int) ≤ (s.length : Int) := by omega
    have hcut : ∀ W, (Instr.slice 9 (.string (bs s)) (some (.int .i64 2)) none none).run Tryz.prog W = .ok (.string (bs (s.drop 2))) W := fun W => run_cut_from Tryz.prog W 9 Tryz.underlying9 s 2 (by omega)
    have HV := Lib.hid hv
    clear hv
    go_enter Tryz.func104, Tryz.ntmps104
    go_wp2_with fail
    go_quiet (fail)
    have e : (s[0].toNat : Int) + (s[1].toNat : Int) * (256 : Int) = ((s[0].toNat + 256 * s[1].toNat : Nat) : Int) := by omega
    simp only [e]
    clear e
    have hnb : s[0].toNat + 256 * s[1].toNat ≤ 65535 := by omega
    generalize s[0].toNat + 256 * s[1].toNat = n at *
    go_wp2_with fail
    have hst := fun (n' : Nat) => rdStart w n' s (s.drop 2)
    have HST := Lib.hid hst
    clear hst
    go_loopw [21] (fun i wr => ∃ (j : Nat) (S : List UInt8) (l : List (List UInt8)) (fp : Nat → Prop), j ≤ n ∧ i = .int .i64 j ∧ Rding wr w.heap.size (w.heap.size + 1) S l fp ∧ l.length = j ∧ S.length ≤ s.length ∧ Below w.heap.size w wr ∧ (∀ k, fp k → w.heap.size ≤ k) ∧ readTs n (s.drop 2) = (readTs (n - j) S).map fun q => (l ++ q.1, q.2)) (fun i _ => n - (intOf i).toNat)
    case atStart =>
      refine ⟨0, s.drop 2, [], _, by omega, rfl, (HST.out _).1, rfl, by rw [List.length_drop]; omega, (HST.out _).2, ?_, ?_⟩
      · rintro k (rfl | rfl | hk)
        · exact Nat.le_refl _
        · omega
        · simp [Value.ownBlock] at hk
      · simp
    case round =>
      obtain ⟨j, S, l, fp, hj, rfl, hrd, hll, hSl, hb, hfp, hrs⟩ := hrel
      have HRD := Lib.hid hrd
      have HLL := Lib.hid hll
      have HB := Lib.hid hb
      have HFP := Lib.hid hfp
      have HRS := Lib.hid hrs
      obtain ⟨v, hq, hown, hvp, hvq, hfpe⟩ := hrd.row
      have hp := hrd.left
      have cp : wr.cell? ⟨w.heap.size, 0, none⟩ = some (.string (bs S)) := by rw [cell_of_row wr _ _ _ _ _ hp]; rfl
      have cq : wr.cell? ⟨w.heap.size + 1, 0, none⟩ = some v := by rw [cell_of_row wr _ _ _ _ _ hq]; rfl
      have fq0 := frozen_of_row wr (w.heap.size + 1) 0 _ _ hq
      have HO := Lib.hid hown
      have HQ := Lib.hid hq
      have HVB := Lib.hid (show ∀ g, v.ownBlock = some g → w.heap.size ≤ g from fun g hg => hfp g (by rw [hfpe]; exact .inr (.inr hg)))
      clear hrd hll hb hfp hrs hq hown hfpe hp
      have hR0 : ∀ (o : Option (List (List UInt8))), readRow s = o → Hid (readRow s = o) := fun o h => Lib.hid h
      have hrr : readRow s = (readTs n (s.drop 2)).bind fun q => if q.2 = [] then some q.1 else none := by unfold readRow; rw [if_neg h2, HV.out]
      have HRR := Lib.hid hrr
      clear hR0 hrr
      by_cases hlt : j < n
      · go_wp2_with fail
        refine (rdNext_any HRD.out (by omega) (by rw [HLL.out]; omega)).mono ?_
        rintro e w2 ⟨fp2, hu, hs2, hpost⟩
        have HB2 := Lib.hid (below_upd HB.out hu HFP.out HB.out.size)
        have HFP2 := Lib.hid (show ∀ k, fp2 k → w.heap.size ≤ k from fun k hk => by
          rcases hs2 k hk with h | h
          · exact HFP.out k h
          · exact Nat.le_trans HB.out.size h)
        clear hu hs2 cp cq fq0
        cases hr : readT S with
        | none =>
          rw [hr] at hpost
          obtain ⟨rfl, hrd2⟩ := hpost
          obtain ⟨v2, hq2, _⟩ := hrd2.row
          have cq2 : w2.cell? ⟨w.heap.size + 1, 0, none⟩ = some v2 := by rw [cell_of_row w2 _ _ _ _ _ hq2]; rfl
          have fq2 := frozen_of_row w2 (w.heap.size + 1) 0 _ _ hq2
          have hR : Hid (readRow s = none) := Lib.hid (by rw [HRR.out, rd_none hlt HRS.out hr]; rfl)
          have hcr : (w2.setCell ⟨w.heap.size + 1, 0, none⟩ (.slice none 0 0)).cell? ⟨w.heap.size + 1, 0, none⟩ = some (.slice none 0 0) := by rw [cell_of_row _ _ _ _ _ _ (heap_setCell_same w2 _ 0 _ _ _ hq2)]; rfl
          clear hrd2 hq2 hr
          go_wp2_with fail
          exact bodyPost_ret (v := .tuple #[.slice none 0 0, .int .i64 7]) (by simp [results, Tryz.results104, go_sem, hcr]) rfl (rowPost_none hR.out rfl (HB2.out.setCell (p := ⟨w.heap.size + 1, 0, none⟩) (by show w.heap.size ≤ w.heap.size + 1; omega) _))
        | some r =>
          obtain ⟨t, m⟩ := r
          rw [hr] at hpost
          obtain ⟨rfl, hrd2⟩ := hpost
          have HRD2 := Lib.hid hrd2
          have HRS2 := Lib.hid (rd_step hlt HRS.out hr)
          clear hrd2 hr
          go_wp2_with fail
          go_roundw
          case rel => exact ⟨j + 1, S.drop m, l ++ [t], fp2, by omega, by go_num, HRD2.out, by rw [List.length_append, HLL.out]; rfl, by rw [List.length_drop]; omega, HB2.out, HFP2.out, HRS2.out⟩
          case measure => simp [intOf]; omega
      · obtain rfl : j = n := by omega
        by_cases hS : S = []
        · subst hS
          have hR : Hid (readRow s = some l) := Lib.hid (by rw [HRR.out, HRS.out, Nat.sub_self]; simp [readTs])
          obtain ⟨qv, cpv, rfl⟩ := slice_len HO.out
          have hcr : (wr.setCell ⟨w.heap.size + 1, 0, none⟩ (.slice qv l.length cpv)).cell? ⟨w.heap.size + 1, 0, none⟩ = some (.slice qv l.length cpv) := by rw [cell_of_row _ _ _ _ _ _ (heap_setCell_same wr _ 0 _ _ _ HQ.out)]; rfl
          go_wp2_with fail
          have hu : Upd (fun k => k = w.heap.size + 1) wr (wr.setCell ⟨w.heap.size + 1, 0, none⟩ (.slice qv l.length cpv)) := (Upd.refl (fun k => k = w.heap.size + 1) wr).setCell (p := ⟨w.heap.size + 1, 0, none⟩) (.inl rfl) _
          exact bodyPost_ret (v := .tuple #[.slice qv l.length cpv, .int .i64 0]) (by simp [results, Tryz.results104, go_sem, hcr]) rfl (rowPost_some hR.out rfl (ownsRow_upd HO.out hu (fun g hg e => hvq (by rw [hg, e]))) (HB.out.setCell (p := ⟨w.heap.size + 1, 0, none⟩) (by show w.heap.size ≤ w.heap.size + 1; omega) _) HVB.out)
        · have hR : Hid (readRow s = none) := Lib.hid (by rw [HRR.out, HRS.out, Nat.sub_self]; simp [readTs, hS])
          have hne : S.isEmpty = false := by
            cases S with
            | nil => exact absurd rfl hS
            | cons => rfl
          have hcr : (wr.setCell ⟨w.heap.size + 1, 0, none⟩ (.slice none 0 0)).cell? ⟨w.heap.size + 1, 0, none⟩ = some (.slice none 0 0) := by rw [cell_of_row _ _ _ _ _ _ (heap_setCell_same wr _ 0 _ _ _ HQ.out)]; rfl
          clear hS
          go_wp2_with fail
          exact bodyPost_ret (v := .tuple #[.slice none 0 0, .int .i64 7]) (by simp [results, Tryz.results104, go_sem, hcr]) rfl (rowPost_none hR.out rfl (HB.out.setCell (p := ⟨w.heap.size + 1, 0, none⟩) (by show w.heap.size ≤ w.heap.size + 1; omega) _))
end Go.Proofs.YtoaihngckcbhiaaGreatDoor
