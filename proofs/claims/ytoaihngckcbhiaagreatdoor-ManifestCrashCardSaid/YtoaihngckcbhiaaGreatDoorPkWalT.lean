/- WalT -/
import Derived.Test.YtoaihngckcbhiaaGreatDoorPkOct
import Derived.Test.YtoaihngckcbhiaaGreatDoorPkDiskFill
namespace Go.Proofs.YtoaihngckcbhiaaGreatDoor
open Go.RowKit Go.Maps
open Wal
set_option maxRecDepth 100000 in
theorem whole_any (s : List UInt8) (w : World) (hs : s.length ≤ 100000000) :
    Calls Tryz.prog 66 #[.string (bs s)] w fun e w' => e = .returned (.string (bs (pad s))) ∧ Below w.heap.size w w' := by
  obtain ⟨N, hN⟩ : ∃ N : Nat, N = (s.length + 63) / 64 * 64 := ⟨_, rfl⟩
  have hq : ((s.length : Int) + 64 - 1) / 64 * 64 = (N : Int) := by omega
  obtain ⟨m, hm⟩ : ∃ m : Nat, m = N - s.length := ⟨_, rfl⟩
  have hm2 : (N : Int) - (s.length : Int) = (m : Int) := by omega
  have hpad : Hid (pad s = s ++ List.replicate m 0) := Lib.hid (by unfold pad; rw [← hN, ← hm])
  have hmb : m ≤ 100 := by omega
  have hnb : N ≤ 100000100 := by omega
  obtain ⟨C, hmk, hrow⟩ := u8_made w m (by omega)
  have hbytes := run_bytes_bs Tryz.prog (w.alloc (.cells C 5)) 176 5 9 Tryz.underlying176 Tryz.underlying5 Tryz.underlying9 w.heap.size 0 m m (List.replicate m 0) List.length_replicate (fun i h => by rw [Nat.zero_add]; exact hrow.cell i h)
  clear hrow hN hm
  go_enter Tryz.func66, Tryz.ntmps66
  go_wp2_with fail
  go_ret
  rw [hpad.out]
  exact ⟨rfl, (Below.refl _ _).alloc (Nat.le_refl _) _⟩
set_option maxRecDepth 100000 in
theorem mark_any (gen used : Nat) (w : World) (hg : gen < 18446744073709551616) (hu : used < 4294967296) :
    Calls Tryz.prog 67 #[.int .u64 gen, .int .i64 used] w fun e w' => e = .returned (.string (bs (Wal.mark gen used))) ∧ Below w.heap.size w w' := by
  have HG := Lib.hid hg
  have hu2 : (used : Int) ≤ 4294967295 := by omega
  have hlog : ({ data := #[76, 79, 71, 49] } : ByteArray) = bs [76, 79, 71, 49] := rfl
  clear hg
  go_enter Tryz.func67, Tryz.ntmps67
  go_wp2_with fail
  refine (put_any gen 8 _ (by have := HG.out; exact this) (by decide) (by decide)).mono ?_
  rintro e w1 ⟨rfl, hb1⟩
  have HB1 := Lib.hid hb1
  clear hb1
  go_wp2_with fail
  refine (put_any used 4 _ hu (by decide) (by decide)).mono ?_
  rintro e w2 ⟨rfl, hb2⟩
  have HB2 := Lib.hid (HB1.out.trans (hb2.mono HB1.out.size))
  clear hb2
  go_wp2_with fail
  refine (seal_any (76 :: 79 :: 71 :: 49 :: (Crc.le 8 gen ++ Crc.le 4 used)) _ (by simp [Crc.le_length])).mono ?_
  rintro e w3 ⟨rfl, hb3⟩
  have HB3 := Lib.hid (HB2.out.trans (hb3.mono HB2.out.size))
  clear hb3
  go_wp2_with fail
  refine (whole_any (Crc.sealT (76 :: 79 :: 71 :: 49 :: (Crc.le 8 gen ++ Crc.le 4 used))) _ (by rw [Crc.seal_length]; simp [Crc.le_length])).mono ?_
  rintro e w4 ⟨rfl, hb4⟩
  have HB4 := Lib.hid (HB3.out.trans (hb4.mono HB3.out.size))
  clear hb4
  go_wp2_with fail
  go_ret
  exact ⟨rfl, HB4.out⟩
def groupV (l : List (List UInt8)) : List UInt8 × Int := match groupE l with | none => ([], 5) | some t => (t, 0)
theorem rowE_length {l : List (List UInt8)} {s : List UInt8} (h : rowE l = some s) : s.length = rowLen l := by
  unfold rowE at h
  split at h
  · cases h1 : textsE l with
    | none => rw [h1] at h; cases h
    | some a =>
      rw [h1] at h
      simp at h
      subst h
      have := textsE_length h1
      simp [Crc.le_length]; omega
  · cases h
set_option maxRecDepth 100000 in
set_option maxHeartbeats 400000 in
theorem group_any (l : List (List UInt8)) (a : Option Addr) (cap : Nat) (w : World) (hl : TextsAt w a l) (hlen : l.length ≤ maxLen) (hsum : rowLen l ≤ 10000000) :
    Calls Tryz.prog 121 #[.slice a l.length cap] w fun e w' => e = .returned (.tuple #[.string (bs (groupV l).1), .int .i64 (groupV l).2]) ∧ Below w.heap.size w w' := by
  have HL := Lib.hid hl
  have HLEN := Lib.hid hlen
  clear hl hlen
  cases hr : rowE l with
  | none =>
    have hR : rowV l = ([], 5) := by unfold rowV; rw [hr]
    have hG : groupV l = ([], 5) := by unfold groupV groupE; rw [hr]; rfl
    have HR := Lib.hid hR
    rw [hG]
    clear hr hR hG
    go_enter Tryz.func121, Tryz.ntmps121
    go_wp2_with fail
    refine (orow_any l a cap w HL.out HLEN.out (by omega)).mono ?_
    rw [HR.out]
    rintro e w1 ⟨rfl, hb⟩
    have HB := Lib.hid hb
    clear hb
    go_wp2_with fail
    go_ret2
    exact ⟨rfl, HB.out⟩
  | some s =>
    have hR : rowV l = (s, 0) := by unfold rowV; rw [hr]
    have hG : groupV l = (pad (Crc.le 4 s.length ++ s), 0) := by unfold groupV groupE; rw [hr]; rfl
    have hsl := rowE_length hr
    have HSUM := Lib.hid hsum
    have HR := Lib.hid hR
    rw [hG]
    clear hr hR hG
    rw [← hsl] at hsum
    clear hsl
    go_enter Tryz.func121, Tryz.ntmps121
    go_wp2_with fail
    refine (orow_any l a cap w HL.out HLEN.out (by have := HSUM.out; omega)).mono ?_
    rw [HR.out]
    rintro e w1 ⟨rfl, hb⟩
    have HB := Lib.hid hb
    clear hb
    go_wp2_with fail
    refine (put_any s.length 4 _ (by omega) (by decide) (by decide)).mono ?_
    rintro e w2 ⟨rfl, hb2⟩
    have HB2 := Lib.hid (HB.out.trans (hb2.mono HB.out.size))
    clear hb2
    go_wp2_with fail
    refine (whole_any (Crc.le 4 s.length ++ s) _ (by simp [Crc.le_length]; omega)).mono ?_
    rintro e w3 ⟨rfl, hb3⟩
    have HB3 := Lib.hid (HB2.out.trans (hb3.mono HB2.out.size))
    clear hb3
    go_wp2_with fail
    go_ret2
    exact ⟨rfl, HB3.out⟩
end Go.Proofs.YtoaihngckcbhiaaGreatDoor
namespace Go.Proofs.YtoaihngckcbhiaaGreatDoor
open Go.RowKit Go.Maps
open Wal
theorem run_cut_to (P : Program) (W : World) (t : TypeId) (hu : P.underlying t = some .string) (s : List UInt8) (hi : Nat) (h2 : hi ≤ s.length) :
    (Instr.slice t (.string (bs s)) none (some (.int .i64 (hi : Int))) none).run P W = .ok (.string (bs (s.take hi))) W := by
  have g2 : (hi : Int) ≤ (s.length : Int) := by omega
  simp [Instr.slice, run_underlying hu, Instr.sliceBounds, run_sliceBound, go_sem, g2]
theorem run_cut_u (P : Program) (W : World) (t : TypeId) (hu : P.underlying t = some .string) (s : List UInt8) (lo hi : Nat) (h1 : lo ≤ hi) (h2 : hi ≤ s.length) :
    (Instr.slice t (.string (bs s)) (some (.int .i64 (lo : Int))) (some (.int .u64 (hi : Int))) none).run P W = .ok (.string (bs ((s.take hi).drop lo))) W := by
  have g2 : (hi : Int) ≤ (s.length : Int) := by omega
  simp [Instr.slice, run_underlying hu, Instr.sliceBounds, run_sliceBound, go_sem, h1, g2]
theorem texts_of_row {w : World} {base : Nat} {v : Value} {l : List (List UInt8)} (h : w.ownsRow base 9 1 v l.length (strCells l)) : ∃ a cap, v = .slice a l.length cap ∧ TextsAt w a l := by
  rcases h.2 with ⟨e1, e2⟩ | ⟨g, cap, cur, e1, _⟩
  · exact ⟨none, 0, by rw [e1, e2], fun i hi => by omega⟩
  · subst e1
    refine ⟨_, cap, rfl, fun i hi => ⟨⟨g, 0, none⟩, rfl, ?_⟩⟩
    exact h.cells (g := g) rfl i _ (strCells_get l i hi)
def NextPost (w : World) (s : List UInt8) (e : Ending) (w' : World) : Prop :=
  match nextG s with
  | none => e = .returned (.tuple #[.slice none 0 0, .int .i64 0, .bool false]) ∧ Below w.heap.size w w'
  | some (l, k) => ∃ v, e = .returned (.tuple #[v, .int .i64 (k : Int), .bool true]) ∧ w'.ownsRow 0 9 1 v l.length (strCells l) ∧ Below w.heap.size w w' ∧ ∀ g, v.ownBlock = some g → w.heap.size ≤ g
theorem nextPost_none {w w' : World} {s : List UInt8} {e : Ending} (h : nextG s = none) (he : e = .returned (.tuple #[.slice none 0 0, .int .i64 0, .bool false])) (hb : Below w.heap.size w w') : NextPost w s e w' := by
  unfold NextPost; rw [h]; exact ⟨he, hb⟩
theorem nextPost_some {w w' : World} {s : List UInt8} {l : List (List UInt8)} {k : Nat} {e : Ending} {v : Value} (h : nextG s = some (l, k)) (he : e = .returned (.tuple #[v, .int .i64 (k : Int), .bool true])) (ho : w'.ownsRow 0 9 1 v l.length (strCells l)) (hb : Below w.heap.size w w') (hg : ∀ g, v.ownBlock = some g → w.heap.size ≤ g) : NextPost w s e w' := by
  unfold NextPost; rw [h]; exact ⟨v, he, ho, hb, hg⟩
theorem group_of_read {s : List UInt8} {l : List (List UInt8)} (h4 : 4 ≤ s.length) (hv : Crc.val (s.take 4) ≤ s.length - 4) (h : readRow ((s.take (4 + Crc.val (s.take 4))).drop 4) = some l) : groupE l = some (pad (s.take (4 + Crc.val (s.take 4)))) ∧ rowLen l = Crc.val (s.take 4) := by
  have hr := readRow_some h
  have hl : ((s.take (4 + Crc.val (s.take 4))).drop 4).length = Crc.val (s.take 4) := by rw [List.length_drop, List.length_take]; omega
  refine ⟨?_, by rw [← rowE_length hr, hl]⟩
  unfold groupE
  rw [hr]
  simp only [Option.map_some]
  rw [hl]
  have e : Crc.le 4 (Crc.val (s.take 4)) = s.take 4 := by
    have := Crc.le_val (s.take 4)
    rwa [List.length_take, Nat.min_eq_left h4] at this
  rw [e]
  generalize Crc.val (s.take 4) = v at *
  have h3 : s.take 4 = (s.take (4 + v)).take 4 := by rw [List.take_take, Nat.min_eq_left (by omega)]
  rw [h3, List.take_append_drop]
set_option maxRecDepth 100000 in
set_option maxHeartbeats 2000000 in
theorem next_any (s : List UInt8) (w : World) (hs : s.length ≤ 10000000) (h64 : s.length % 64 = 0) :
    Calls Tryz.prog 68 #[.string (bs s)] w fun e w' => NextPost w s e w' := by
  by_cases h0 : s.length < 64
  · have hN : Hid (nextG s = none) := Lib.hid (by unfold nextG; rw [if_pos h0])
    go_enter Tryz.func68, Tryz.ntmps68
    go_wp2_with fail
    go_ret3
    exact nextPost_none hN.out rfl (Below.refl _ _)
  · have hc4 : ∀ W, (Instr.slice 9 (.string (bs s)) none (some (.int .i64 4)) none).run Tryz.prog W = .ok (.string (bs (s.take 4))) W := fun W => run_cut_to Tryz.prog W 9 Tryz.underlying9 s 4 (by omega)
    have hl4 : (s.take 4).length = 4 := by rw [List.length_take]; omega
    have hv := Crc.val_lt (s.take 4)
    rw [hl4] at hv
    have hget := fun (W : World) => get_any (s.take 4) W (by omega) (by omega)
    have hG := fun (l : List (List UInt8)) => @group_of_read s l
    have hNX : nextG s = if Crc.val (s.take 4) ≤ s.length - 4 then
      (readRow ((s.take (4 + Crc.val (s.take 4))).drop 4)).bind fun l =>
        if pad (s.take (4 + Crc.val (s.take 4))) = s.take (pad (s.take (4 + Crc.val (s.take 4)))).length then some (l, (pad (s.take (4 + Crc.val (s.take 4)))).length) else none
      else none := by unfold nextG; rw [if_neg h0]
    generalize Crc.val (s.take 4) = v at *
    have hv32 : v < 4294967296 := hv
    have HGET := Lib.hid hget
    have HG := Lib.hid hG
    have hw1 : IntKind.u64.wrap ((s.length : Int) - 4) = (s.length : Int) - 4 := IntWalk.u64_in _ (by omega)
    clear hl4 hv hget hG
    by_cases hvs : v ≤ s.length - 4
    · rw [if_pos hvs] at hNX
      have hvi : (v : Int) ≤ (s.length : Int) - 4 := by omega
      have hw2 : IntKind.u64.wrap (4 + (v : Int)) = 4 + (v : Int) := IntWalk.u64_in _ (by omega)
      have hcu : ∀ W, (Instr.slice 9 (.string (bs s)) (some (.int .i64 4)) (some (.int .u64 (4 + (v : Int)))) none).run Tryz.prog W = .ok (.string (bs ((s.take (4 + v)).drop 4))) W := fun W => by
        have := run_cut_u Tryz.prog W 9 Tryz.underlying9 s 4 (4 + v) (by omega) (by omega)
        rw [Int.natCast_add] at this
        exact this
      cases hr : readRow ((s.take (4 + v)).drop 4) with
      | none =>
        have hN : Hid (nextG s = none) := Lib.hid (by rw [hNX, hr]; rfl)
        have HR := Lib.hid hr
        clear hNX hr
        go_enter Tryz.func68, Tryz.ntmps68
        go_wp2_with fail
        refine (HGET.out _).mono ?_
        rintro e w1 ⟨rfl, rfl⟩
        go_wp2_with fail
        refine (readRow_any ((s.take (4 + v)).drop 4) _ (by rw [List.length_drop, List.length_take]; omega)).mono ?_
        intro e w1 hp
        unfold RowPost at hp
        rw [HR.out] at hp
        obtain ⟨rfl, hb⟩ := hp
        have HB := Lib.hid hb
        clear hb
        go_wp2_with fail
        go_ret3
        exact nextPost_none hN.out rfl HB.out
      | some l =>
        obtain ⟨hge, hrl⟩ := HG.out l (by omega) hvs hr
        have hgv : groupV l = (pad (s.take (4 + v)), 0) := by unfold groupV; rw [hge]
        have HGV := Lib.hid hgv
        have HR := Lib.hid hr
        have HRL := Lib.hid hrl
        rw [hr] at hNX
        simp only [Option.bind_some] at hNX
        have htl : (pad (s.take (4 + v))).length ≤ s.length := by rw [pad_length, List.length_take]; omega
        have hct : ∀ W, (Instr.slice 9 (.string (bs s)) none (some (.int .i64 ((pad (s.take (4 + v))).length : Int))) none).run Tryz.prog W = .ok (.string (bs (s.take (pad (s.take (4 + v))).length))) W := fun W => run_cut_to Tryz.prog W 9 Tryz.underlying9 s _ htl
        have hll : l.length ≤ 100000000 := by
          have := HRL.out
          unfold rowLen at this
          have h2 : ∀ (l : List (List UInt8)), l.length ≤ (l.map fun s => 2 + s.length).sum := by
            intro l
            induction l with
            | nil => simp
            | cons x l ih => simp; omega
          have := h2 l
          omega
        clear hr hgv hge hrl
        generalize pad (s.take (4 + v)) = t at *
        by_cases hts : t = s.take t.length
        · rw [if_pos hts] at hNX
          have HNX := Lib.hid hNX
          have hbt : (t == s.take t.length) = true := by rw [← hts]; simp
          have HTS := Lib.hid hts
          clear hNX hts
          go_enter Tryz.func68, Tryz.ntmps68
          go_wp2_with fail
          refine (HGET.out _).mono ?_
          rintro e w1 ⟨rfl, rfl⟩
          go_wp2_with fail
          refine (readRow_any ((s.take (4 + v)).drop 4) _ (by rw [List.length_drop, List.length_take]; omega)).mono ?_
          intro e w1 hp
          unfold RowPost at hp
          rw [HR.out] at hp
          obtain ⟨vv, rfl, ho, hb, hn⟩ := hp
          obtain ⟨qa, ca, rfl, htx⟩ := texts_of_row ho
          have HB := Lib.hid hb
          have HO := Lib.hid ho
          have HN := Lib.hid hn
          have HTX := Lib.hid htx
          clear hb ho hn htx
          go_wp2_with fail
          refine (group_any l qa ca _ HTX.out (by unfold maxLen; omega) (by rw [HRL.out]; omega)).mono ?_
          rw [HGV.out]
          rintro e w2 ⟨rfl, hb2⟩
          have HB2 := Lib.hid hb2
          clear hb2
          go_wp2_with fail
          go_ret3
          exact nextPost_some HNX.out rfl (ownsRow_upd HO.out (Upd.of_below (F := fun _ => False) HB2.out) (fun _ _ f => f)) (HB.out.trans (HB2.out.mono HB.out.size)) HN.out
        · rw [if_neg hts] at hNX
          have HNX := Lib.hid hNX
          have hbt : (t == s.take t.length) = false := by simp [hts]
          have HTS := Lib.hid hts
          clear hNX hts
          go_enter Tryz.func68, Tryz.ntmps68
          go_wp2_with fail
          refine (HGET.out _).mono ?_
          rintro e w1 ⟨rfl, rfl⟩
          go_wp2_with fail
          refine (readRow_any ((s.take (4 + v)).drop 4) _ (by rw [List.length_drop, List.length_take]; omega)).mono ?_
          intro e w1 hp
          unfold RowPost at hp
          rw [HR.out] at hp
          obtain ⟨vv, rfl, ho, hb, hn⟩ := hp
          obtain ⟨qa, ca, rfl, htx⟩ := texts_of_row ho
          have HB := Lib.hid hb
          have HO := Lib.hid ho
          have HN := Lib.hid hn
          have HTX := Lib.hid htx
          clear hb ho hn htx
          go_wp2_with fail
          refine (group_any l qa ca _ HTX.out (by unfold maxLen; omega) (by rw [HRL.out]; omega)).mono ?_
          rw [HGV.out]
          rintro e w2 ⟨rfl, hb2⟩
          have HB2 := Lib.hid hb2
          clear hb2
          go_wp2_with fail
          go_ret3
          exact nextPost_none HNX.out rfl (HB.out.trans (HB2.out.mono HB.out.size))
    · have hN : Hid (nextG s = none) := Lib.hid (by rw [hNX, if_neg hvs])
      have hvi : (s.length : Int) - 4 < (v : Int) := by omega
      clear hNX
      go_enter Tryz.func68, Tryz.ntmps68
      go_wp2_with fail
      refine (HGET.out _).mono ?_
      rintro e w1 ⟨rfl, rfl⟩
      go_wp2_with fail
      go_ret3
      exact nextPost_none hN.out rfl (Below.refl _ _)
end Go.Proofs.YtoaihngckcbhiaaGreatDoor
