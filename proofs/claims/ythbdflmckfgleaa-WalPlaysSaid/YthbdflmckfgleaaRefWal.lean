/- maslinref05: sectors, Mark, Group, Need, group, walked; the document's log in memory; Room, fall, Same. -/
import Derived.Test.YthbdflmckfgleaaRefOct
import Derived.Test.YthbdflmckfgleaaWalMach
import Derived.Test.YthbdflmckfgleaaWalD
namespace Go.Proofs.Ythbdflmckfgleaa
open Go.RowKit Go.Maps
open Wal

/-- What has been laid down of whole sectors. -/
def PadAcc (l : List UInt8) (m : Nat) (v : Value) : Prop := ∃ j, j ≤ m ∧ v = .string (bs (l ++ List.replicate j 0))
def strSize (v : Value) : Nat := match v with | .string s => s.size | _ => 0
set_option maxRecDepth 100000 in
theorem sectors5_any (l : List UInt8) (w : World) (hs : l.length ≤ 100000000) :
    Calls Try.prog 103 #[.string (bs l)] w fun e w' => e = .returned (.string (bs (pad l))) ∧ w = w' := by
  obtain ⟨m, hm⟩ : ∃ m : Nat, m = (l.length + 63) / 64 * 64 - l.length := ⟨_, rfl⟩
  have hpad : Hid (pad l = l ++ List.replicate m 0) := Lib.hid (by unfold pad; rw [← hm])
  have hmb : m ≤ 64 := by omega
  have hme : ∀ j, j < m → (l.length + j) % 64 ≠ 0 := fun j hj => by omega
  have hmz : (l.length + m) % 64 = 0 := by omega
  have HME := Lib.hid hme; have HMZ := Lib.hid hmz
  clear hm hme hmz
  go_enter Try.func103, Try.ntmps103
  go_wp2_with fail
  go_loop [0] (fun v => PadAcc l m v) (fun v => l.length + m - strSize v)
  case atStart => exact ⟨0, Nat.zero_le _, by simp⟩
  case round =>
    obtain ⟨j, hj, rfl⟩ := hrel
    have htl : (l ++ List.replicate j (0 : UInt8)).length = l.length + j := by simp
    have hnx : l ++ List.replicate j (0 : UInt8) ++ [0] = l ++ List.replicate (j + 1) 0 := by rw [List.append_assoc, ← List.replicate_succ']
    have HTL := Lib.hid htl; have HNX := Lib.hid hnx
    by_cases hlt : j < m
    · have hne := HME.out j hlt
      rw [← htl] at hne
      have htb : (l ++ List.replicate j (0 : UInt8)).length ≤ 100000064 := by rw [htl]; omega
      clear htl hnx
      generalize l ++ List.replicate j (0 : UInt8) = t at *
      have hb1 : ((t.length : Int) % 64 == 0) = false := by rw [beq_eq_false_iff_ne]; omega
      have hb2 : ((t.length : Int) % 64 != 0) = true := by rw [bne_iff_ne]; omega
      have hz : ({ data := #[0] } : ByteArray) = bs [0] := rfl
      clear hne
      go_wp2_with fail
      go_round
      case rel => exact ⟨j + 1, hlt, by rw [HNX.out]⟩
      case measure =>
        have h1 : strSize (.string (bs t)) = l.length + j := HTL.out
        have h2 : strSize (.string (bs (t ++ [0]))) = l.length + j + 1 := by show (t ++ [0]).length = _; rw [List.length_append, HTL.out]; rfl
        rw [h1, h2]; omega
    · obtain rfl : j = m := by omega
      have hz := HMZ.out
      rw [← htl] at hz
      have htb : (l ++ List.replicate j (0 : UInt8)).length ≤ 100000064 := by rw [htl]; omega
      clear htl hnx
      generalize l ++ List.replicate j (0 : UInt8) = t at *
      have hb1 : ((t.length : Int) % 64 == 0) = true := by rw [beq_iff_eq]; omega
      have hb2 : ((t.length : Int) % 64 != 0) = false := by rw [bne_eq_false_iff_eq]; omega
      clear hz
      go_wp2_with fail
      go_ret
      rw [hpad.out]
      exact ⟨rfl, rfl⟩

set_option maxRecDepth 100000 in
theorem rmark_any (gen used : Nat) (w : World) (hg : gen < 18446744073709551616) (hu : used < 4294967296) :
    Calls Try.prog 81 #[.int .u64 gen, .int .i64 used] w fun e w' => e = .returned (.string (bs (Wal.mark gen used))) ∧ Below w.heap.size w w' := by
  have HG := Lib.hid hg
  have hu2 : (used : Int) ≤ 4294967295 := by omega
  have hlog : ({ data := #[76, 79, 71, 49] } : ByteArray) = bs [76, 79, 71, 49] := rfl
  clear hg
  go_enter Try.func81, Try.ntmps81
  go_wp2_with fail
  refine (num_any gen 8 _ HG.out (by decide)).mono ?_
  rintro e w1 ⟨rfl, hb1⟩
  have HB1 := Lib.hid hb1
  clear hb1
  go_wp2_with fail
  refine (num_any used 4 _ (by omega) (by decide)).mono ?_
  rintro e w2 ⟨rfl, hb2⟩
  have HB2 := Lib.hid (HB1.out.trans (hb2.mono HB1.out.size))
  clear hb2
  go_wp2_with fail
  refine (rseal_any (76 :: 79 :: 71 :: 49 :: (Crc.le 8 gen ++ Crc.le 4 used)) _ (by simp [Crc.le_length])).mono ?_
  rintro e w3 ⟨rfl, hb3⟩
  have HB3 := Lib.hid (HB2.out.trans (hb3.mono HB2.out.size))
  clear hb3
  go_wp2_with fail
  refine (sectors5_any (Crc.sealT (76 :: 79 :: 71 :: 49 :: (Crc.le 8 gen ++ Crc.le 4 used))) _ (by rw [Crc.seal_length]; simp [Crc.le_length])).mono ?_
  rintro e w4 ⟨rfl, rfl⟩
  go_wp2_with fail
  go_ret
  exact ⟨rfl, HB3.out⟩

set_option maxRecDepth 100000 in
set_option maxHeartbeats 400000 in
theorem rgroup_any (l : List (List UInt8)) (a : Option Addr) (cap : Nat) (w : World) (hl : TextsAt w a l) (hlen : l.length ≤ maxLen) (hsum : rowLen l ≤ 10000000) :
    Calls Try.prog 93 #[.slice a l.length cap] w fun e w' => e = .returned (.tuple #[.string (bs (groupV l).1), .int .i64 (groupV l).2]) ∧ Below w.heap.size w w' := by
  have HL := Lib.hid hl
  have HLEN := Lib.hid hlen
  clear hl hlen
  cases hr : rowE l with
  | none =>
    have hR : rowV l = ([], 5) := by unfold rowV; rw [hr]
    have hG : groupV l = ([], 5) := by unfold groupV groupE; rw [hr]; rfl
    have HR := Lib.hid hR
    rw [hG]
    clear hr hR hG
    go_enter Try.func93, Try.ntmps93
    go_wp2_with fail
    refine (rrow_any l a cap w HL.out HLEN.out (by omega)).mono ?_
    rw [HR.out]
    rintro e w1 ⟨rfl, hb⟩
    have HB := Lib.hid hb
    clear hb
    go_wp2_with fail
    go_ret2
    exact ⟨rfl, HB.out⟩
  | some s =>
    have hR : rowV l = (s, 0) := by unfold rowV; rw [hr]
    have hG : groupV l = (pad (Crc.le 4 s.length ++ s), 0) := by unfold groupV groupE; rw [hr]; rfl
    have hsl := rowE_length hr
    have HSUM := Lib.hid hsum
    have HR := Lib.hid hR
    rw [hG]
    clear hr hR hG
    rw [← hsl] at hsum
    clear hsl
    go_enter Try.func93, Try.ntmps93
    go_wp2_with fail
    refine (rrow_any l a cap w HL.out HLEN.out (by have := HSUM.out; omega)).mono ?_
    rw [HR.out]
    rintro e w1 ⟨rfl, hb⟩
    have HB := Lib.hid hb
    clear hb
    go_wp2_with fail
    refine (num_any s.length 4 _ (by omega) (by decide)).mono ?_
    rintro e w2 ⟨rfl, hb2⟩
    have HB2 := Lib.hid (HB.out.trans (hb2.mono HB.out.size))
    clear hb2
    go_wp2_with fail
    refine (sectors5_any (Crc.le 4 s.length ++ s) _ (by simp [Crc.le_length]; omega)).mono ?_
    rintro e w3 ⟨rfl, rfl⟩
    go_wp2_with fail
    go_ret2
    exact ⟨rfl, HB2.out⟩

set_option maxRecDepth 100000 in
theorem rneed_any (l : List (List UInt8)) (a : Option Addr) (cap : Nat) (w : World) (hl : TextsAt w a l) (hlen : l.length ≤ maxLen) (hsum : rowLen l ≤ 10000000) :
    Calls Try.prog 56 #[.slice a l.length cap] w fun e w' => e = .returned (.tuple #[.int .i64 (((groupV l).1.length / 64 : Nat) : Int), .int .i64 (groupV l).2]) ∧ Below w.heap.size w w' := by
  have HL := Lib.hid hl; have HLEN := Lib.hid hlen
  clear hl hlen
  go_enter Try.func56, Try.ntmps56
  go_wp2_with fail
  obtain ⟨r1, r2, hr⟩ : ∃ r1 r2, groupV l = (r1, r2) := ⟨_, _, rfl⟩
  have hgl2 : r1.length ≤ 10000068 := by have := groupV_length l; rw [hr] at this; have h2 : r1.length ≤ rowLen l + 68 := this; omega
  have HR := Lib.hid hr
  clear hr
  refine (rgroup_any l a cap w HL.out HLEN.out hsum).mono ?_
  rw [HR.out]
  rintro e w1 ⟨rfl, hb⟩
  have HB := Lib.hid hb
  clear hb
  have hv : ((r1.length / 64 : Nat) : Int) = (r1.length : Int) / 64 := by omega
  have HV := Lib.hid hv
  clear hv
  go_wp2_with fail
  go_ret2
  rw [HR.out]
  refine ⟨?_, HB.out⟩
  show _ = Ending.returned (.tuple #[.int .i64 ((r1.length / 64 : Nat) : Int), .int .i64 r2])
  rw [HV.out]
  rfl

/-- What the document's group answers. -/
def RNextPost (w : World) (s : List UInt8) (e : Ending) (w' : World) : Prop :=
  match nextG s with
  | none => (∃ v k, e = .returned (.tuple #[v, .int .i64 k, .bool false])) ∧ Below w.heap.size w w'
  | some (l, k) => ∃ v, e = .returned (.tuple #[v, .int .i64 ((k / 64 : Nat) : Int), .bool true]) ∧ w'.ownsRow 0 9 1 v l.length (strCells l) ∧ Below w.heap.size w w' ∧ ∀ g, v.ownBlock = some g → w.heap.size ≤ g
theorem rnextPost_none {w w' : World} {s : List UInt8} {e : Ending} {v : Value} {k : Int} (h : nextG s = none) (he : e = .returned (.tuple #[v, .int .i64 k, .bool false])) (hb : Below w.heap.size w w') : RNextPost w s e w' := by
  unfold RNextPost; rw [h]; exact ⟨⟨v, k, he⟩, hb⟩
theorem rnextPost_some {w w' : World} {s : List UInt8} {l : List (List UInt8)} {k : Nat} {e : Ending} {v : Value} (h : nextG s = some (l, k)) (he : e = .returned (.tuple #[v, .int .i64 ((k / 64 : Nat) : Int), .bool true])) (ho : w'.ownsRow 0 9 1 v l.length (strCells l)) (hb : Below w.heap.size w w') (hg : ∀ g, v.ownBlock = some g → w.heap.size ≤ g) : RNextPost w s e w' := by
  unfold RNextPost; rw [h]; exact ⟨v, he, ho, hb, hg⟩
theorem rowLen_ge (l : List (List UInt8)) : l.length ≤ rowLen l := by
  have h2 : ∀ (l : List (List UInt8)), l.length ≤ (l.map fun s => 2 + s.length).sum := by
    intro l
    induction l with
    | nil => simp
    | cons x l ih => simp; omega
  have := h2 l
  unfold rowLen
  omega

set_option maxRecDepth 100000 in
set_option maxHeartbeats 2000000 in
theorem rnext_any (s : List UInt8) (w : World) (hs : s.length ≤ 10000000) (h64 : s.length % 64 = 0) :
    Calls Try.prog 82 #[.string (bs s)] w fun e w' => RNextPost w s e w' := by
  by_cases h0 : s.length < 64
  · have hN : Hid (nextG s = none) := Lib.hid (by unfold nextG; rw [if_pos h0])
    go_enter Try.func82, Try.ntmps82
    go_wp2_with fail
    go_ret3
    exact rnextPost_none hN.out rfl (Below.refl _ _)
  · have hc4 : ∀ W, (Instr.slice 9 (.string (bs s)) none (some (.int .i64 4)) none).run Try.prog W = .ok (.string (bs (s.take 4))) W := fun W => run_cut_to Try.prog W 9 Try.underlying9 s 4 (by omega)
    have hl4 : (s.take 4).length = 4 := by rw [List.length_take]; omega
    have hv := Crc.val_lt (s.take 4)
    rw [hl4] at hv
    have hget := fun (W : World) => value_any (s.take 4) W (by omega)
    have hG := fun (l : List (List UInt8)) => @group_of_read s l
    have hNX : nextG s = if Crc.val (s.take 4) ≤ s.length - 4 then
      (readRow ((s.take (4 + Crc.val (s.take 4))).drop 4)).bind fun l =>
        if pad (s.take (4 + Crc.val (s.take 4))) = s.take (pad (s.take (4 + Crc.val (s.take 4)))).length then some (l, (pad (s.take (4 + Crc.val (s.take 4)))).length) else none
      else none := by unfold nextG; rw [if_neg h0]
    generalize Crc.val (s.take 4) = v at *
    have hv32 : v < 4294967296 := hv
    have hw0 : IntKind.i64.wrap (v : Int) = (v : Int) := IntWalk.i64_in _ (by omega)
    have HGET := Lib.hid hget
    have HG := Lib.hid hG
    clear hl4 hv hget hG
    by_cases hvs : v ≤ s.length - 4
    · rw [if_pos hvs] at hNX
      have hvi : (v : Int) ≤ (s.length : Int) - 4 := by omega
      have hcu : ∀ W, (Instr.slice 9 (.string (bs s)) (some (.int .i64 4)) (some (.int .i64 (4 + (v : Int)))) none).run Try.prog W = .ok (.string (bs ((s.take (4 + v)).drop 4))) W := fun W => by
        have := run_cut Try.prog W 9 Try.underlying9 s 4 (4 + v) (by omega) (by omega)
        rw [Int.natCast_add] at this
        exact this
      cases hr : readRow ((s.take (4 + v)).drop 4) with
      | none =>
        have hN : Hid (nextG s = none) := Lib.hid (by rw [hNX, hr]; rfl)
        have HR := Lib.hid hr
        clear hNX hr
        go_enter Try.func82, Try.ntmps82
        go_wp2_with fail
        refine (HGET.out _).mono ?_
        rintro e w1 ⟨rfl, rfl⟩
        go_wp2_with fail
        refine (rreadRow_any ((s.take (4 + v)).drop 4) _ (by rw [List.length_drop, List.length_take]; omega)).mono ?_
        intro e w1 hp
        unfold RowPost at hp
        rw [HR.out] at hp
        obtain ⟨rfl, hb⟩ := hp
        have HB := Lib.hid hb
        clear hb
        go_wp2_with fail
        go_ret3
        exact rnextPost_none hN.out rfl HB.out
      | some l =>
        obtain ⟨hge, hrl⟩ := HG.out l (by omega) hvs hr
        have hgv : groupV l = (pad (s.take (4 + v)), 0) := by unfold groupV; rw [hge]
        have HGV := Lib.hid hgv
        have HR := Lib.hid hr
        have HRL := Lib.hid hrl
        rw [hr] at hNX
        simp only [Option.bind_some] at hNX
        have htl : (pad (s.take (4 + v))).length ≤ s.length := by rw [pad_length, List.length_take]; omega
        have hct : ∀ W, (Instr.slice 9 (.string (bs s)) none (some (.int .i64 ((pad (s.take (4 + v))).length : Int))) none).run Try.prog W = .ok (.string (bs (s.take (pad (s.take (4 + v))).length))) W := fun W => run_cut_to Try.prog W 9 Try.underlying9 s _ htl
        have hll : l.length ≤ 100000000 := by
          have := HRL.out
          have := rowLen_ge l
          omega
        have hk64 : (((pad (s.take (4 + v))).length / 64 : Nat) : Int) = ((pad (s.take (4 + v))).length : Int) / 64 := by omega
        have htb : (pad (s.take (4 + v))).length ≤ 10000000 := by omega
        have HK := Lib.hid hk64
        clear hr hgv hge hrl hk64
        generalize pad (s.take (4 + v)) = t at *
        have hTS : t = s.take t.length ∨ t ≠ s.take t.length := Decidable.em _
        go_enter Try.func82, Try.ntmps82
        have HNX0 := Lib.hid hNX
        clear hNX
        go_wp2_with fail
        refine (HGET.out _).mono ?_
        rintro e w1 ⟨rfl, rfl⟩
        go_wp2_with fail
        refine (rreadRow_any ((s.take (4 + v)).drop 4) _ (by rw [List.length_drop, List.length_take]; omega)).mono ?_
        intro e w1 hp
        unfold RowPost at hp
        rw [HR.out] at hp
        obtain ⟨vv, rfl, ho, hb, hn⟩ := hp
        obtain ⟨qa, ca, rfl, htx⟩ := texts_of_row ho
        have HB := Lib.hid hb
        have HO := Lib.hid ho
        have HN := Lib.hid hn
        have HTX := Lib.hid htx
        clear hb ho hn htx
        go_wp2_with fail
        refine (rgroup_any l qa ca _ HTX.out (by unfold maxLen; omega) (by rw [HRL.out]; omega)).mono ?_
        rw [HGV.out]
        rintro e w2 ⟨rfl, hb2⟩
        have HB2 := Lib.hid hb2
        clear hb2
        rcases hTS with hts | hts
        · have HNX := Lib.hid (HNX0.out.trans (if_pos hts))
          have hbt : (t == s.take t.length) = true := by rw [← hts]; simp
          clear hts
          go_wp2_with fail
          go_quiet (fail)
          go_wp2_with fail
          go_ret3
          exact rnextPost_some HNX.out (by rw [HK.out]; rfl) (ownsRow_upd HO.out (Upd.of_below (F := fun _ => False) (HB2.out.trans ((below_drawn _ _).mono HB2.out.size))) (fun _ _ f => f)) (HB.out.trans ((HB2.out.trans ((below_drawn _ _).mono HB2.out.size)).mono HB.out.size)) HN.out
        · have HNX := Lib.hid (HNX0.out.trans (if_neg hts))
          have hbt : (t == s.take t.length) = false := by simp [hts]
          clear hts
          go_wp2_with fail
          go_quiet (fail)
          go_wp2_with fail
          go_ret3
          exact rnextPost_none HNX.out rfl (HB.out.trans ((HB2.out.trans ((below_drawn _ _).mono HB2.out.size)).mono HB.out.size))
    · have hN : Hid (nextG s = none) := Lib.hid (by rw [hNX, if_neg hvs])
      have hvi : (s.length : Int) - 4 < (v : Int) := by omega
      clear hNX
      go_enter Try.func82, Try.ntmps82
      go_wp2_with fail
      refine (HGET.out _).mono ?_
      rintro e w1 ⟨rfl, rfl⟩
      go_wp2_with fail
      go_ret3
      exact rnextPost_none hN.out rfl (Below.refl _ _)
end Go.Proofs.Ythbdflmckfgleaa
