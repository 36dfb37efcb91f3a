/- FilRep2 -/
import Derived.Test.YtoaihngckcbhiaaGreatDoorPkStrHeap
import Derived.Test.YtoaihngckcbhiaaGreatDoorPkWalRep
import Derived.Test.YtoaihngckcbhiaaGreatDoorPkFilLaw
import Derived.Maps.RangeWalk
import Derived.Sort.KeysCollected
namespace Go.Proofs.YtoaihngckcbhiaaGreatDoor
open Go.RowKit Go.Maps
open Fil
theorem skGet_iff {kv : List (List UInt8 × Value)} (hn : (kv.map (·.1)).Nodup) {k : List UInt8} {v : Value} : skGet kv k = some v ↔ (k, v) ∈ kv := by
  refine ⟨skGet_mem, fun hm => ?_⟩
  induction kv with
  | nil => simp at hm
  | cons p kv ih =>
    simp only [List.map_cons, List.nodup_cons] at hn
    unfold skGet
    rcases List.mem_cons.1 hm with e | hm
    · subst e; simp
    · have : ¬ p.1 = k := fun e => hn.1 (by rw [e]; exact List.mem_map_of_mem (f := (·.1)) hm)
      rw [List.find?_cons_of_neg (by simpa using this)]
      exact ih hn.2 hm
theorem skGet_perm {kv kv' : List (List UInt8 × Value)} (hn : (kv.map (·.1)).Nodup) (h : kv.Perm kv') (k : List UInt8) : skGet kv k = skGet kv' k := by
  have hn' : (kv'.map (·.1)).Nodup := (h.map (·.1)).nodup_iff.1 hn
  cases h1 : skGet kv k with
  | none =>
    cases h2 : skGet kv' k with
    | none => rfl
    | some v =>
      have := (skGet_iff hn).2 (h.mem_iff.2 ((skGet_iff hn').1 h2))
      rw [h1] at this; cases this
  | some v => exact ((skGet_iff hn').2 (h.mem_iff.1 ((skGet_iff hn).1 h1))).symm
theorem skDel_perm {kv kv' : List (List UInt8 × Value)} (h : kv.Perm kv') (k : List UInt8) : (skDel k kv).Perm (skDel k kv') := h.filter _
def filKv (F : M) : List (List UInt8 × Value) := F.map fun p => (p.1, .agg #[.string (bs p.2)])
theorem skGet_fil (F : M) (k : List UInt8) : skGet (filKv F) k = (Fil.get F k).map fun s => .agg #[.string (bs s)] := by
  induction F with
  | nil => rfl
  | cons p F ih =>
    unfold skGet Fil.get filKv
    rw [List.map_cons]
    by_cases h : p.1 = k
    · subst h
      simp
    · rw [List.find?_cons_of_neg (by simpa using h), List.find?_cons_of_neg (by simpa using h)]
      exact ih
theorem skDel_fil (F : M) (k : List UInt8) : skDel k (filKv F) = filKv (del k F) := by
  unfold skDel filKv del
  rw [List.filter_map]
  rfl
def FilMap (w : World) (m : Nat) (F : M) : Prop := Up F ∧ ∃ kv : List (List UInt8 × Value), kv.Perm (filKv F) ∧ StrMap Tryz.prog 9 w m kv
theorem text_info : (Tryz.prog.info? 142).map (fun i => (i.zero, i.size)) = some (some (.agg #[.string ByteArray.empty]), 1) := by kernel_rfl
theorem text_zero' (w : World) : (zeroValue 142).run Tryz.prog w = .ok (.agg #[.string ByteArray.empty]) w := (zero_of_info text_info).1 w
section
variable {w w' : World} {m : Nat} {F : M}
theorem FilMap.lt (h : FilMap w m F) : m < w.heap.size := h.2.choose_spec.2.lt
theorem FilMap.kept (h : FilMap w m F) (e : w'.heap[m]? = w.heap[m]?) : FilMap w' m F := by
  obtain ⟨h1, kv, h2, h3⟩ := h
  exact ⟨h1, kv, h2, h3.kept e⟩
theorem FilMap.upd {P : Nat → Prop} (h : FilMap w m F) (hu : Upd P w w') (hP : ¬ P m) : FilMap w' m F := h.kept (hu.block m h.lt hP)
theorem FilMap.below (h : FilMap w m F) (hb : Below w.heap.size w w') : FilMap w' m F := h.kept (hb.block m h.lt)
theorem FilMap.made (w : World) : FilMap (w.alloc (.map #[] 0)) w.heap.size [] := ⟨Up.nil, [], List.Perm.nil, StrMap.made w⟩
theorem FilMap.is (h : FilMap w m F) : ∃ es clock, w.heap[m]? = some (.map es clock) := by
  obtain ⟨_, kv, _, _, D, ⟨es, clock, hm, _⟩, _⟩ := h
  exact ⟨es, clock, hm⟩
theorem FilMap.noBlk (h : FilMap w m F) {t : TypeId} : ¬ BlkOf w m t := by
  obtain ⟨es, clock, hm⟩ := h.is
  rintro ⟨cs, fr, hb⟩
  rw [hm] at hb
  injection hb with hb
  cases hb
theorem FilMap.nodup {kv : List (List UInt8 × Value)} (h2 : kv.Perm (filKv F)) (h1 : Up F) : (kv.map (·.1)).Nodup := by
  rw [(h2.map (·.1)).nodup_iff]
  unfold filKv
  rw [List.map_map]
  exact h1.nodup
theorem FilMap.lookup (h : FilMap w m F) (k : List UInt8) (hk : k.length ≤ maxLen) :
    (Instr.lookup 65 (.map (some m)) (.string (bs k)) false).run Tryz.prog w = .ok (.agg #[.string (bs ((Fil.get F k).getD []))]) w := by
  obtain ⟨h1, kv, h2, h3⟩ := h
  rw [h3.lookup Tryz.underlying9 Tryz.underlying65 (text_zero' w) k hk, skGet_perm (FilMap.nodup h2 h1) h2, skGet_fil]
  cases Fil.get F k <;> rfl
theorem FilMap.lookup_ok (h : FilMap w m F) (k : List UInt8) (hk : k.length ≤ maxLen) :
    (Instr.lookup 65 (.map (some m)) (.string (bs k)) true).run Tryz.prog w = .ok (.tuple #[.agg #[.string (bs ((Fil.get F k).getD []))], .bool (Fil.get F k).isSome]) w := by
  obtain ⟨h1, kv, h2, h3⟩ := h
  rw [h3.lookup_ok Tryz.underlying9 Tryz.underlying65 (text_zero' w) k hk, skGet_perm (FilMap.nodup h2 h1) h2, skGet_fil]
  cases Fil.get F k <;> rfl
theorem FilMap.update (h : FilMap w m F) (k v : List UInt8) (hk : k.length ≤ maxLen) (hroom : F.length < maxLen) :
    ∃ w', (Instr.mapUpdate 65 (.map (some m)) (.string (bs k)) (.agg #[.string (bs v)])).run Tryz.prog w = .ok () w' ∧ FilMap w' m (put k v F) ∧ w.grownBy w' (some m) := by
  obtain ⟨h1, kv, h2, h3⟩ := h
  obtain ⟨w', hrun, h4, h5⟩ := h3.update Tryz.underlying9 Tryz.underlying65 k hk (.agg #[.string (bs v)]) (by rw [h2.length_eq]; unfold filKv; rw [List.length_map]; exact hroom)
  refine ⟨w', hrun, ⟨h1.put k v, _, ?_, h4⟩, h5⟩
  unfold skPut
  refine (List.Perm.cons _ ((skDel_perm h2 k).trans (by rw [skDel_fil]))).trans ?_
  exact ((put_perm h1 k v).symm.map fun p => (p.1, Value.agg #[.string (bs p.2)]))
theorem FilMap.delete (h : FilMap w m F) (k : List UInt8) (hk : k.length ≤ maxLen) (ty : TypeId) :
    ∃ w', (Builtin.delete_ #[65, 9] ty #[.map (some m), .string (bs k)]).run Tryz.prog w = .ok (.tuple #[]) w' ∧ FilMap w' m (del k F) ∧ w.grownBy w' (some m) := by
  obtain ⟨h1, kv, h2, h3⟩ := h
  obtain ⟨w', hrun, h4, h5⟩ := h3.delete Tryz.underlying9 Tryz.underlying65 k hk ty
  exact ⟨w', hrun, ⟨h1.del k, _, (skDel_perm h2 k).trans (by rw [skDel_fil]), h4⟩, h5⟩
theorem FilMap.len (h : FilMap w m F) (ty : TypeId) : (Builtin.len_ #[65] ty #[.map (some m)]).run Tryz.prog w = .ok (.int .i64 (F.length : Int)) w := by
  obtain ⟨h1, kv, h2, _, D, hown, _, hsz, _⟩ := h
  rw [hown.len Tryz.underlying65 ty, hsz, h2.length_eq]
  unfold filKv
  rw [List.length_map]
end
def filRow (F : St) (b m x : Nat) : Array Value := #[.pointer (some ⟨b, 0, none⟩), .int .i64 (F.log : Int), .int .i64 (F.size : Int), .int .i64 (F.area : Int), .map (some m), .pointer (some ⟨x, 0, none⟩), .int .i64 F.fault]
structure FilIn (w : World) (y b m x : Nat) (gv : Value) (F : St) : Prop where
  struct : w.heap[y]? = some (.cells (filRow F b m x) 68)
  map : FilMap w m F.m
  wal : WalIn w x b gv F.w
  fits : F.log ≤ 16384 ∧ F.size ≤ 16384 ∧ 1 ≤ F.size ∧ F.area ≤ 1
def filBlocks (y m x : Nat) (gv : Value) (k : Nat) : Prop := k = y ∨ k = m ∨ walBlocks x gv k
section
variable {w w' : World} {y b m x : Nat} {gv : Value} {F : St}
theorem FilIn.cells (h : FilIn w y b m x gv F) :
    w.cell? ⟨y, 0, none⟩ = some (.pointer (some ⟨b, 0, none⟩)) ∧ w.cell? ⟨y, 1, none⟩ = some (.int .i64 (F.log : Int)) ∧ w.cell? ⟨y, 2, none⟩ = some (.int .i64 (F.size : Int)) ∧ w.cell? ⟨y, 3, none⟩ = some (.int .i64 (F.area : Int)) ∧
    w.cell? ⟨y, 4, none⟩ = some (.map (some m)) ∧ w.cell? ⟨y, 5, none⟩ = some (.pointer (some ⟨x, 0, none⟩)) ∧ w.cell? ⟨y, 6, none⟩ = some (.int .i64 F.fault) ∧ ∀ j, w.frozen? ⟨y, j, none⟩ = false := by
  refine ⟨?_, ?_, ?_, ?_, ?_, ?_, ?_, fun j => frozen_of_row w y j _ _ h.struct⟩ <;> rw [cell_of_row w y _ _ _ _ h.struct] <;> rfl
theorem FilIn.lt (h : FilIn w y b m x gv F) : ∀ k, filBlocks y m x gv k → k < w.heap.size := by
  rintro k (rfl | rfl | hk)
  · exact blk_lt h.struct
  · exact h.map.lt
  · exact h.wal.lt k hk
theorem FilIn.blk (h : FilIn w y b m x gv F) : BlkOf w y 68 := ⟨_, _, h.struct⟩
theorem WalIn.kind (h : WalIn w x b gv F.w) {k : Nat} (hk : walBlocks x gv k) : BlkOf w k 135 ∨ BlkOf w k 30 := by
  rcases hk with rfl | hk
  · exact .inl ⟨_, _, h.struct⟩
  · obtain ⟨cs, h1, _⟩ := h.groups
    exact .inr (ownsRow_blk h1 hk)
theorem FilIn.neY (h : FilIn w y b m x gv F) : y ≠ m ∧ ¬ walBlocks x gv y ∧ ¬ walBlocks x gv m :=
  ⟨fun e => h.map.noBlk (e ▸ h.blk), fun hk => by
    rcases h.wal.kind hk with e | e
    · exact BlkOf.ne h.blk e (by decide) rfl
    · exact BlkOf.ne h.blk e (by decide) rfl, fun hk => by
    rcases h.wal.kind hk with e | e <;> exact h.map.noBlk e⟩
theorem FilIn.upd {P : Nat → Prop} (h : FilIn w y b m x gv F) (hu : Upd P w w') (hP : ∀ k, BlkOf w k 9 → ¬ P k) (hG : ∀ k, filBlocks y m x gv k → ¬ P k) : FilIn w' y b m x gv F :=
  ⟨(hu.block y (blk_lt h.struct) (hG y (.inl rfl))).trans h.struct, h.map.upd hu (hG m (.inr (.inl rfl))), h.wal.upd hu hP (fun k hk => hG k (.inr (.inr hk))), h.fits⟩
theorem FilIn.below (h : FilIn w y b m x gv F) (hb : Below w.heap.size w w') : FilIn w' y b m x gv F := h.upd (Upd.of_below (F := fun _ => False) hb) (fun _ _ f => f) (fun _ _ f => f)
end
theorem DiskAt.noBlk {w : World} {b : Nat} {D : Dsk} {fp : Nat → Prop} (h : DiskAt w b D fp) (k : Nat) (hk : fp k) {t : TypeId} (h1 : t ≠ 72) (h2 : t ≠ 123) : ¬ BlkOf w k t := by
  obtain ⟨m, lv, hI, rfl⟩ := h
  rcases hk with rfl | rfl | hk
  · exact fun hb => BlkOf.ne hb ⟨_, _, hI.struct⟩ h1 rfl
  · obtain ⟨kv, ⟨_, D', ⟨es, clock, hm, _⟩, _⟩, _⟩ := hI.base
    rintro ⟨cs, fr, hb⟩
    rw [hm] at hb
    injection hb with hb
    cases hb
  · exact fun hb => BlkOf.ne hb (ownsRow_blk hI.loose hk) h2 rfl
end Go.Proofs.YtoaihngckcbhiaaGreatDoor
namespace Go.Proofs.YtoaihngckcbhiaaGreatDoor
open Go.RowKit Go.Maps Go.Sort
open Fil
set_option maxRecDepth 100000 in
theorem fmay_any (name data : T) (gone : Bool) (w : World) (hn : name.length ≤ maxLen) (hd : data.length ≤ maxLen) :
    Calls Tryz.prog 70 #[.agg #[.string (bs name), .string (bs data), .bool gone]] w fun e w' => e = .returned (.bool (Chg.may ⟨name, data, gone⟩)) ∧ Below w.heap.size w w' := by
  have hb := (Below.refl w.heap.size w).alloc (Nat.le_refl _) (.cells #[.string (bs name), .string (bs data), .bool gone] 99)
  have HB := Lib.hid hb
  clear hb
  unfold maxLen at hn hd
  by_cases h1 : name = []
  · have hv : Hid (Chg.may ⟨name, data, gone⟩ = false) := Lib.hid (by unfold Chg.may mayB; simp [h1])
    rw [hv.out]
    have hne : bs name = ByteArray.empty := by rw [h1]; rfl
    subst h1
    go_enter Tryz.func70, Tryz.ntmps70
    go_wp2_with fail
    go_ret
    exact ⟨rfl, HB.out⟩
  · have he : name.isEmpty = false := by simpa using h1
    by_cases h2 : name.length ≤ 32
    · have h2i : (name.length : Int) ≤ 32 := by omega
      by_cases h3 : data.length ≤ 65535
      · have h3i : (data.length : Int) ≤ 65535 := by omega
        cases gone with
        | false =>
          have hv : Hid (Chg.may ⟨name, data, false⟩ = true) := Lib.hid (by unfold Chg.may mayB; simp [h1, h2, h3])
          clear h1
          rw [hv.out]
          go_enter Tryz.func70, Tryz.ntmps70
          go_wp2_with fail
          go_ret
          exact ⟨rfl, HB.out⟩
        | true =>
          by_cases h4 : data = []
          · have hv : Hid (Chg.may ⟨name, data, true⟩ = true) := Lib.hid (by unfold Chg.may mayB; simp [h1, h2, h4])
            have hf : data.isEmpty = true := by simpa using h4
            clear h1 h4
            rw [hv.out]
            go_enter Tryz.func70, Tryz.ntmps70
            go_wp2_with fail
            go_ret
            exact ⟨rfl, HB.out⟩
          · have hv : Hid (Chg.may ⟨name, data, true⟩ = false) := Lib.hid (by unfold Chg.may mayB; simp [h1, h2, h3, h4])
            have hf : data.isEmpty = false := by simpa using h4
            clear h1 h4
            rw [hv.out]
            go_enter Tryz.func70, Tryz.ntmps70
            go_wp2_with fail
            go_ret
            exact ⟨rfl, HB.out⟩
      · have hv : Hid (Chg.may ⟨name, data, gone⟩ = false) := Lib.hid (by unfold Chg.may mayB; simp [h1, h2, h3])
        clear h1
        have h3i : ¬ (data.length : Int) ≤ 65535 := by omega
        rw [hv.out]
        go_enter Tryz.func70, Tryz.ntmps70
        go_wp2_with fail
        go_ret
        exact ⟨rfl, HB.out⟩
    · have hv : Hid (Chg.may ⟨name, data, gone⟩ = false) := Lib.hid (by unfold Chg.may mayB; simp [h1, h2])
      clear h1
      have h2i : ¬ (name.length : Int) ≤ 32 := by omega
      rw [hv.out]
      go_enter Tryz.func70, Tryz.ntmps70
      go_wp2_with fail
      go_ret
      exact ⟨rfl, HB.out⟩
set_option maxRecDepth 100000 in
theorem fnum_any (n : Nat) (w : World) (hn : n < 4294967296) :
    Calls Tryz.prog 137 #[.int .i64 (n : Int)] w fun e w' => e = .returned (.string (bs (Crc.le 4 n))) ∧ Below w.heap.size w w' := by
  go_enter Tryz.func137, Tryz.ntmps137
  go_wp2_with fail
  refine (put_any n 4 _ hn (by decide) (by decide)).mono ?_
  rintro e w1 ⟨rfl, hb⟩
  go_wp2_with fail
  go_ret
  exact ⟨rfl, hb⟩
set_option maxRecDepth 100000 in
theorem fwhole_any (s : List UInt8) (w : World) (hs : s.length ≤ 100000000) :
    Calls Tryz.prog 60 #[.string (bs s)] w fun e w' => e = .returned (.string (bs (Wal.pad s))) ∧ Below w.heap.size w w' := by
  obtain ⟨N, hN⟩ : ∃ N : Nat, N = (s.length + 63) / 64 * 64 := ⟨_, rfl⟩
  have hq : ((s.length : Int) + 64 - 1) / 64 * 64 = (N : Int) := by omega
  obtain ⟨m, hm⟩ : ∃ m : Nat, m = N - s.length := ⟨_, rfl⟩
  have hm2 : (N : Int) - (s.length : Int) = (m : Int) := by omega
  have hpad : Hid (Wal.pad s = s ++ List.replicate m 0) := Lib.hid (by unfold Wal.pad; rw [← hN, ← hm])
  have hmb : m ≤ 100 := by omega
  have hnb : N ≤ 100000100 := by omega
  obtain ⟨C, hmk, hrow⟩ := u8_made w m (by omega)
  have hbytes := run_bytes_bs Tryz.prog (w.alloc (.cells C 5)) 176 5 9 Tryz.underlying176 Tryz.underlying5 Tryz.underlying9 w.heap.size 0 m m (List.replicate m 0) List.length_replicate (fun i h => by rw [Nat.zero_add]; exact hrow.cell i h)
  clear hrow hN hm
  go_enter Tryz.func60, Tryz.ntmps60
  go_wp2_with fail
  go_ret
  rw [hpad.out]
  exact ⟨rfl, (Below.refl _ _).alloc (Nat.le_refl _) _⟩
set_option maxRecDepth 100000 in
set_option maxHeartbeats 1000000 in
theorem fcut_none {s : List UInt8} (h : cut s = none) (w : World) (hs : s.length ≤ 1000000000) :
    Calls Tryz.prog 64 #[.string (bs s)] w fun e w' => e = .returned (.tuple #[.string ByteArray.empty, .string ByteArray.empty, .bool false]) ∧ w = w' := by
  by_cases h0 : s.length < 4
  · clear h
    go_enter Tryz.func64, Tryz.ntmps64
    go_wp2_with fail
    go_ret3
    exact ⟨rfl, rfl⟩
  · have hc4 : ∀ W, (Instr.slice 9 (.string (bs s)) none (some (.int .i64 4)) none).run Tryz.prog W = .ok (.string (bs (s.take 4))) W := fun W => run_cut_to Tryz.prog W 9 Tryz.underlying9 s 4 (by omega)
    have hl4 : (s.take 4).length = 4 := by rw [List.length_take]; omega
    have hv := Crc.val_lt (s.take 4)
    rw [hl4] at hv
    have HGET := Lib.hid (fun (W : World) => get_any (s.take 4) W (by omega) (by omega))
    unfold cut at h
    rw [if_neg h0] at h
    generalize Crc.val (s.take 4) = v at *
    have hvs : ¬ v ≤ s.length - 4 := fun e => by rw [if_pos e] at h; cases h
    have hv32 : v < 4294967296 := hv
    have hw1 : IntKind.u64.wrap ((s.length : Int) - 4) = (s.length : Int) - 4 := IntWalk.u64_in _ (by omega)
    have hvi : (s.length : Int) - 4 < (v : Int) := by omega
    clear h hl4 hv hvs
    go_enter Tryz.func64, Tryz.ntmps64
    go_wp2_with fail
    refine (HGET.out _).mono ?_
    rintro e w1 ⟨rfl, rfl⟩
    go_wp2_with fail
    go_ret3
    exact ⟨rfl, rfl⟩
set_option maxRecDepth 100000 in
set_option maxHeartbeats 1000000 in
theorem fcut_some {s p q : List UInt8} (h : cut s = some (p, q)) (w : World) (hs : s.length ≤ 1000000000) :
    Calls Tryz.prog 64 #[.string (bs s)] w fun e w' => e = .returned (.tuple #[.string (bs p), .string (bs q), .bool true]) ∧ Below w.heap.size w w' := by
  have h0 : ¬ s.length < 4 := by have := cut_some h; omega
  have hc4 : ∀ W, (Instr.slice 9 (.string (bs s)) none (some (.int .i64 4)) none).run Tryz.prog W = .ok (.string (bs (s.take 4))) W := fun W => run_cut_to Tryz.prog W 9 Tryz.underlying9 s 4 (by omega)
  have hl4 : (s.take 4).length = 4 := by rw [List.length_take]; omega
  have hv := Crc.val_lt (s.take 4)
  rw [hl4] at hv
  have HGET := Lib.hid (fun (W : World) => get_any (s.take 4) W (by omega) (by omega))
  unfold cut at h
  rw [if_neg h0] at h
  generalize Crc.val (s.take 4) = v at *
  have hvs : v ≤ s.length - 4 := by
    by_cases e : v ≤ s.length - 4
    · exact e
    · rw [if_neg e] at h; cases h
  rw [if_pos hvs] at h
  simp only [Option.some.injEq, Prod.mk.injEq] at h
  obtain ⟨rfl, rfl⟩ := h
  have hv32 : v < 4294967296 := hv
  have hw1 : IntKind.u64.wrap ((s.length : Int) - 4) = (s.length : Int) - 4 := IntWalk.u64_in _ (by omega)
  have hw2 : IntKind.u64.wrap (4 + (v : Int)) = 4 + (v : Int) := IntWalk.u64_in _ (by omega)
  have hvi : (v : Int) ≤ (s.length : Int) - 4 := by omega
  have hcu : ∀ W, (Instr.slice 9 (.string (bs s)) (some (.int .i64 4)) (some (.int .u64 (4 + (v : Int)))) none).run Tryz.prog W = .ok (.string (bs ((s.take (4 + v)).drop 4))) W := fun W => by
    have := run_cut_u Tryz.prog W 9 Tryz.underlying9 s 4 (4 + v) (by omega) (by omega)
    rw [Int.natCast_add] at this
    exact this
  have hcf : ∀ W, (Instr.slice 9 (.string (bs s)) (some (.int .u64 (4 + (v : Int)))) none none).run Tryz.prog W = .ok (.string (bs (s.drop (4 + v)))) W := fun W => by
    have g2 : (4 : Int) + (v : Int) ≤ (s.length : Int) := by omega
    have g3 : ((4 : Int) + (v : Int)).toNat = 4 + v := by omega
    have g4 : (0 : Int) ≤ 4 + (v : Int) := by omega
    simp [Instr.slice, run_underlying Tryz.underlying9, Instr.sliceBounds, run_sliceBound, go_sem, g2, g3, g4]
  clear hl4 hv hvs
  go_enter Tryz.func64, Tryz.ntmps64
  go_wp2_with fail
  refine (HGET.out _).mono ?_
  rintro e w1 ⟨rfl, rfl⟩
  go_wp2_with fail
  go_region
  go_wp2_with fail
  go_ret3
  exact ⟨rfl, (Below.refl _ _).drew⟩
set_option maxRecDepth 100000 in
theorem fmarked_any (area num : Nat) (w : World) (ha : area ≤ 1) (hn : num < 18446744073709551616) :
    Calls Tryz.prog 62 #[.int .i64 (area : Int), .int .u64 (num : Int)] w fun e w' => e = .returned (.string (bs (Fil.mark area num))) ∧ Below w.heap.size w w' := by
  have HN := Lib.hid hn
  have hfil : ({ data := #[70, 73, 76, 49] } : ByteArray) = bs [70, 73, 76, 49] := rfl
  clear hn
  go_enter Tryz.func62, Tryz.ntmps62
  go_wp2_with fail
  refine (put_any num 8 _ (by have := HN.out; exact this) (by decide) (by decide)).mono ?_
  rintro e w1 ⟨rfl, hb1⟩
  have HB1 := Lib.hid hb1
  clear hb1
  have hby := run_byte_bs Tryz.prog w1 176 5 9 5 Tryz.underlying176 Tryz.underlying5 Tryz.underlying9 (area : Int) (UInt8.ofNat area) (by rw [u8_ofNat, Nat.mod_eq_of_lt (by omega)])
  go_wp2_with fail
  refine (seal_any (70 :: 73 :: 76 :: 49 :: UInt8.ofNat area :: Crc.le 8 num) _ (by simp [Crc.le_length])).mono ?_
  rintro e w3 ⟨rfl, hb3⟩
  have HB3 := Lib.hid ((HB1.out.alloc HB1.out.size _).trans (hb3.mono (by have := HB1.out.size; rw [World.size_alloc]; omega)))
  clear hb3 hby
  go_wp2_with fail
  refine (fwhole_any (Crc.sealT (70 :: 73 :: 76 :: 49 :: UInt8.ofNat area :: Crc.le 8 num)) _ (by rw [Crc.seal_length]; simp [Crc.le_length])).mono ?_
  rintro e w4 ⟨rfl, hb4⟩
  have HB4 := Lib.hid (HB3.out.trans (hb4.mono HB3.out.size))
  clear hb4
  go_wp2_with fail
  go_ret
  exact ⟨rfl, HB4.out⟩
set_option maxRecDepth 100000 in
theorem fbegin_any (v : Value) (log size area : Nat) (w : World) (h1 : log ≤ 16384) (h2 : size ≤ 16384) (h3 : area ≤ 1) :
    Calls Tryz.prog 63 #[.agg #[v, .int .i64 (log : Int), .int .i64 (size : Int), .int .i64 (area : Int)], .int .i64 (area : Int)] w fun e w' => e = .returned (.int .i64 ((begin_ log size area : Nat) : Int)) ∧ Below w.heap.size w w' := by
  have hb := (Below.refl w.heap.size w).alloc (Nat.le_refl _) (.cells #[v, .int .i64 (log : Int), .int .i64 (size : Int), .int .i64 (area : Int)] 64)
  have HB := Lib.hid hb
  clear hb
  have hp : (area : Int) * (size : Int) ≤ 16384 ∧ 0 ≤ (area : Int) * (size : Int) := by
    rcases Nat.lt_or_ge area 1 with e | e
    · obtain rfl : area = 0 := by omega
      omega
    · obtain rfl : area = 1 := by omega
      omega
  obtain ⟨hp1, hp2⟩ := hp
  have he : Hid (((begin_ log size area : Nat) : Int) = 1 + (log : Int) + (area : Int) * (size : Int)) := Lib.hid (by unfold begin_; rw [Int.natCast_add, Int.natCast_add, Int.natCast_mul]; rfl)
  have hm : IntKind.i64.wrap ((area : Int) * (size : Int)) = (area : Int) * (size : Int) := IntWalk.i64_in _ (by omega)
  have hm2 : IntKind.i64.wrap (1 + (log : Int) + (area : Int) * (size : Int)) = 1 + (log : Int) + (area : Int) * (size : Int) := IntWalk.i64_in _ (by omega)
  rw [he.out]
  go_enter Tryz.func63, Tryz.ntmps63
  go_wp2_with fail
  go_ret
  exact ⟨rfl, HB.out⟩
section
variable {w : World} {y b m x : Nat} {gv : Value} {F : St}
set_option maxRecDepth 100000 in
theorem fget_any (h : FilIn w y b m x gv F) (k : T) (hk : k.length ≤ maxLen) :
    Calls Tryz.prog 44 #[.pointer (some ⟨y, 0, none⟩), .string (bs k)] w fun e w' => e = .returned (.tuple #[.string (bs ((Fil.get F.m k).getD [])), .bool (Fil.get F.m k).isSome]) ∧ Below w.heap.size w w' := by
  have hl := h.map.lookup_ok k hk
  obtain ⟨_, _, _, _, c4, _⟩ := h.cells
  clear h hk
  generalize Fil.get F.m k = r at *
  generalize r.isSome = u at *
  go_enter Tryz.func44, Tryz.ntmps44
  go_wp2_with fail
  go_ret2
  exact ⟨rfl, (Below.refl _ _).alloc (Nat.le_refl _) _⟩
set_option maxRecDepth 100000 in
theorem froom_any (h : FilIn w y b m x gv F) :
    Calls Tryz.prog 91 #[.pointer (some ⟨y, 0, none⟩)] w fun e w' => e = .returned (.int .i64 (F.room : Int)) ∧ w = w' := by
  obtain ⟨_, _, c2, _⟩ := h.cells
  obtain ⟨_, h2, h3, _⟩ := h.fits
  have he : Hid ((F.room : Int) = (F.size : Int) * 64 - 4) := Lib.hid (by unfold St.room; omega)
  rw [he.out]
  clear h
  generalize F.size = n at *
  go_enter Tryz.func91, Tryz.ntmps91
  go_wp2_with fail
  go_ret
  exact ⟨rfl, rfl⟩
end
theorem cost_perm {F : M} (hu : Up F) {ss : List T} (hp : ss.Perm (F.map (·.1))) : (ss.map fun k => 8 + k.length + ((Fil.get F k).getD []).length).sum = (F.map cost).sum := by
  rw [(hp.map _).sum_nat, List.map_map]
  congr 1
  apply List.map_congr_left
  intro p hp
  show 8 + p.1.length + ((Fil.get F p.1).getD []).length = cost p
  rw [get_mem hu (v := p.2) hp]
  rfl
theorem skGet_isSome (kv : List (List UInt8 × Value)) (x : List UInt8) : x ∈ kv.map (·.1) ↔ (skGet kv x).isSome = true := by
  unfold skGet
  rw [Option.isSome_map, List.find?_isSome, List.mem_map]
  constructor
  · rintro ⟨p, hp, rfl⟩; exact ⟨p, hp, by simp⟩
  · rintro ⟨p, hp, h⟩; exact ⟨p, hp, by simpa using h⟩
theorem StrMap.keyed {w : World} {m : Nat} {kv : List (List UInt8 × Value)} (h : StrMap Tryz.prog 9 w m kv) : ∃ D : DataW Value, w.ownsMap Tryz.prog 9 heldR m kv.length D ∧ Maps.size D = kv.length ∧ (kv.map (·.1)).Perm (strKeys D) := by
  obtain ⟨hn, D, hown, _, hsz, hat⟩ := h
  refine ⟨D, hown, hsz, Collected.perm (left := fun _ => false) ⟨hn, fun x => ?_⟩ hown (string_keyed Tryz.underlying9) Tryz.underlying9 (fun _ => rfl)⟩
  rw [has_of_get (hat x), skGet_isSome]
  simp
theorem filKv_keys (F : M) : (filKv F).map (·.1) = F.map (·.1) := by unfold filKv; rw [List.map_map]; rfl
def fcosts (F : M) (ss : List T) : Nat := (ss.map fun k => 8 + k.length + ((Fil.get F k).getD []).length).sum
theorem fcosts_snoc (F : M) (ss : List T) (k s : T) (h : Fil.get F k = some s) : fcosts F (ss ++ [k]) = fcosts F ss + (8 + k.length + s.length) := by
  unfold fcosts
  rw [List.map_append, List.sum_append]
  simp [h]
theorem fcosts_le (F : M) (ss : List T) (h : ∀ k ∈ ss, ∃ s, Fil.get F k = some s) : fcosts F ss ≤ ss.length * used F := by
  induction ss with
  | nil => simp [fcosts]
  | cons k ss ih =>
    obtain ⟨s, hs⟩ := h k List.mem_cons_self
    have h1 := ih (fun x hx => h x (List.mem_cons_of_mem _ hx))
    have h2 := used_mem (get_some hs)
    have e : fcosts F (k :: ss) = (8 + k.length + s.length) + fcosts F ss := by unfold fcosts; rw [List.map_cons, List.sum_cons, hs]; rfl
    unfold cost at h2
    rw [e, List.length_cons, Nat.succ_mul]
    simp only at h2
    omega
set_option maxRecDepth 100000 in
set_option maxHeartbeats 1000000 in
theorem fused_any {w : World} {m : Nat} {F : M} (h : FilMap w m F) (hc : used F ≤ 1000000000) :
    Calls Tryz.prog 90 #[.map (some m)] w fun e w' => e = .returned (.int .i64 (used F : Int)) ∧ Below w.heap.size w w' := by
  have hlt := h.lt
  obtain ⟨hu, kv, hperm, hn, D, hown, ht, hsz, hat⟩ := h
  have hlen := used_len F
  have hkl : kv.length = F.length := by rw [hperm.length_eq]; unfold filKv; rw [List.length_map]
  have HG := Lib.hid (fun (x : T) => (skGet_perm hn hperm x).trans (skGet_fil F x))
  have HU := Lib.hid (show used F = 4 + (F.map cost).sum from rfl)
  have HUP := Lib.hid hu; have HAT := Lib.hid hat; have HP := Lib.hid hperm; have HN := Lib.hid hn
  have HC := Lib.hid hc; have HLE := Lib.hid hlen; have HSZ := Lib.hid hsz; have HKL := Lib.hid hkl; have HLT := Lib.hid hlt; have HOWN := Lib.hid hown
  clear hu hperm hn ht hat hc hlen hsz hkl hlt
  go_enter Tryz.func90, Tryz.ntmps90
  go_wp2_with (first
    | (at_range; refine wpList_range_own _ rfl _ 65 rfl 9 142 (string_keyed Tryz.underlying9) Tryz.underlying65 _ m _ _ rfl hown ?_; intro w0 hrg0 hg0 hs0)
    | fail)
  go_frame
  clear hown
  go_loopw [3] (fun n wr => ∃ (left : Lit → Bool) (cnt : Nat) (ss : List T), wr.ranges Tryz.prog 9 heldR m w.heap.size kv.length D left cnt ∧ Collected D left ss ∧ ss.length + cnt ≤ kv.length ∧ (∀ k ∈ ss, ∃ s, Fil.get F k = some s) ∧ n = .int .i64 ((4 + fcosts F ss : Nat) : Int) ∧ Below w.heap.size w wr)
    (fun _ wr => wr.rangeLeft m w.heap.size)
  case atStart => exact ⟨_, _, [], hrg0, Collected.start D, by rw [← HSZ.out]; simp, by simp, rfl, (Below.refl _ _).grown hg0 (Nat.le_refl _) (fun j hj => by cases hj)⟩
  case round =>
    obtain ⟨left, cnt, ss, hrg, hC, hcnt, hall, rfl, hb⟩ := hrel
    have hcl := fcosts_le F ss hall
    have hcb : fcosts F ss ≤ 125000000 * 1000000000 := Nat.le_trans hcl (Nat.mul_le_mul (by have := HLE.out; have := HC.out; have := HKL.out; omega) HC.out)
    have HCO := Lib.hid hC; have HALL := Lib.hid hall; have HB := Lib.hid hb; have HRG := Lib.hid hrg; have HCN := Lib.hid hcnt
    clear hcl hC hall hb hcnt
    go_wp2_with (first
      | (at_next; refine wpList_next_ranges _ rfl _ rfl 9 (string_keyed Tryz.underlying9) heldR encStr id (fun key kl hk => by obtain ⟨x, hx, _⟩ := Maps.keyOf_str Tryz.underlying9 hk; exact ⟨x, hx⟩) (fun v _ _ => ⟨v, rfl⟩) m w.heap.size kv.length _ _ _ rfl hrg ?_ ?_)
      | fail)
    · intro hc0 hl0
      clear hrg
      go_wp2_with fail
      go_ret
      have hp := HCO.out.perm HOWN.out (string_keyed Tryz.underlying9) Tryz.underlying9 hl0
      have hk : (kv.map (·.1)).Perm (strKeys D) := Collected.perm (left := fun _ => false) ⟨HN.out, fun x => by rw [has_of_get (HAT.out x), skGet_isSome]; simp⟩ HOWN.out (string_keyed Tryz.underlying9) Tryz.underlying9 (fun _ => rfl)
      have hk2 : ss.Perm (F.map (·.1)) := (hp.trans hk.symm).trans (by rw [← filKv_keys]; exact HP.out.map _)
      have he : fcosts F ss = (F.map cost).sum := cost_perm HUP.out hk2
      exact ⟨by rw [HU.out, ← he]; rfl, HB.out⟩
    · intro x c kl yd yp w2 cnt2 hkey hlk hv hat hrg2 hlt hg2 hs2 hen
      obtain ⟨x', ex, rfl, hxl⟩ := Maps.keyOf_str Tryz.underlying9 hkey
      obtain rfl : x = x' := encStr_inj ex
      have hv2 : (DataW.held c : DataW Value) = yd := by injection hv with hv; injection hv
      subst hv2
      obtain ⟨s, hs, rfl⟩ : ∃ s, Fil.get F x = some s ∧ c = .agg #[.string (bs s)] := by
        have h1 := HAT.out x .nil
        rw [hat .nil, HG.out x] at h1
        cases hg : Fil.get F x with
        | none => rw [hg] at h1; cases h1
        | some s =>
          rw [hg] at h1
          refine ⟨s, rfl, ?_⟩
          injection h1
      have HS := Lib.hid hs; have HC2 := Lib.hid (HCO.out.step hlk hat)
      have HRG2 := Lib.hid (hrg2.alloc (.cells #[.string (bs s)] 142))
      have HLT2 := Lib.hid hlt
      have HB2 := Lib.hid (HB.out.grown hg2 HB.out.size (fun j hj => by cases hj; exact Nat.le_refl _))
      have HB3 := Lib.hid (HB2.out.alloc HB2.out.size (.cells #[.string (bs s)] 142))
      have hsl : s.length + 12 + x.length ≤ used F := by have := used_mem (get_some hs); unfold cost at this; simp only at this; omega
      have hss : Hid (fcosts F (ss ++ [x]) = fcosts F ss + (8 + x.length + s.length)) := Lib.hid (fcosts_snoc F ss x s hs)
      have HCL := Lib.hid HC.out
      have hxb : x.length ≤ 1000000000 := by have := HC.out; omega
      have hsb : s.length ≤ 1000000000 := by have := HC.out; omega
      have exs : encStr x = .string (bs x) := rfl
      have hk3 : Hid (∀ k ∈ ss ++ [x], ∃ s, Fil.get F k = some s) := Lib.hid (fun k hk => by
        rcases List.mem_append.1 hk with hk | hk
        · exact HALL.out k hk
        · rw [List.mem_singleton] at hk; subst hk; exact ⟨s, hs⟩)
      rw [exs] at hen
      clear hrg hkey ex hv hat hrg2 hlt hg2 hs2 hs hlk
      simp only [exs]
      clear exs
      go_wp2_with fail
      go_roundw
      case rel => exact ⟨_, cnt2, ss ++ [x], HRG2.out, HC2.out, by have := HLT2.out; have := HCN.out; rw [List.length_append, List.length_singleton]; omega, hk3.out, by rw [hss.out]; go_num, HB3.out⟩
      case measure => rw [HRG2.out.left_eq, HRG.out.left_eq]; exact HLT2.out
end Go.Proofs.YtoaihngckcbhiaaGreatDoor
