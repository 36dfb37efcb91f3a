/- maslinlaw31.played, walked. -/
import Derived.Test.YtgmhglcdifhimaaDoorSchedPlay
namespace Go.Proofs.YtgmhglcdifhimaaDoor
open Go.RowKit Go.Maps Go.Sort
open Tsk

def numRow (l : List Nat) : List Value := (numsI l).map encZ
theorem numRow_len (l : List Nat) : (numRow l).length = l.length := by simp [numRow, numsI]
theorem numRow_set (l : List Nat) (i c : Nat) : (numRow l).set i (.int .i64 (c : Int)) = numRow (l.set i c) := by
  unfold numRow numsI
  rw [List.map_set, List.map_set]
theorem numRow_cell {w : World} {g : Nat} {l : List Nat} (h : RowAt w g 3 (numRow l)) (i : Nat) (hi : i < l.length) : w.cell? ⟨g, i, none⟩ = some (.int .i64 ((l.getD i 0 : Nat) : Int)) := by
  rw [h.cell i (by rw [numRow_len]; exact hi), List.getD_eq_getElem?_getD, List.getElem?_eq_getElem hi]
  simp [numRow, numsI, encZ]
theorem ints_made (w : World) (n : Nat) (hn : n ≤ 5000) : ∃ C : Array Value, (Instr.makeSlice 31 (.int .i64 (n : Int)) (.int .i64 (n : Int))).run Tryd.prog w = .ok (.slice (some ⟨w.heap.size, 0, none⟩) n n) (w.alloc (.cells C 3)) ∧ C.toList = numRow (List.replicate n 0) := by
  obtain ⟨i0, hi, hz0, hz1, hz2⟩ := info_parts int_info
  have hrun := run_make (P := Tryd.prog) w 31 3 i0 _ Tryd.underlying31 hi hz0 .i64 .i64 n n (by omega) (Int.le_refl _) (by rw [hz2]; omega) (by omega)
  rw [Int.toNat_natCast, hz1] at hrun
  refine ⟨_, hrun, ?_⟩
  rw [madeCells_one _ rfl n]
  simp [numRow, numsI, encZ]
theorem ints_index (g n k : Nat) (hk : k < n) (W : World) : (Instr.indexAt 31 (.slice (some ⟨g, 0, none⟩) n n) (.int .i64 (k : Int))).run Tryd.prog W = .ok (.pointer (some ⟨g, k, none⟩)) W := by
  have := run_index_slice Tryd.prog 31 3 Tryd.underlying31 1 (by kernel_rfl) ⟨g, 0, none⟩ n n k hk W
  rw [Nat.mul_one, add_plain] at this
  exact this
section
variable {w0 w w' : World} {P p m g : Nat} {lv vv : Value} {nvs : List Value} {M M' : Sch.Master} {k : Nat}
theorem MastTo.numRow (h : MastIn w P p m lv nvs vv M) {l : List Nat} (hr : RowAt w g 3 (numRow l)) (ht : MastTo w w' P p m lv nvs vv M') : RowAt w' g 3 (Go.Proofs.YtgmhglcdifhimaaDoor.numRow l) :=
  hr.upd ht.upd (h.notOf hr.blk (by decide) (by decide) (by decide) (by decide))
theorem MyM.picks {a : Option Addr} {l : List Sch.Pick} (h : MyM w0 w P p m lv nvs vv M k) (hp : PicksAt w0 a l) : PicksAt w a l := hp.below h.below
theorem MyM.to (h : MyM w0 w P p m lv nvs vv M k) {j : Nat} (ht : MastTo w w' P p m lv nvs vv M') (hF : M'.b.Fine j) (hl : M'.lives.length = M.lives.length) : MyM w0 w' P p m lv nvs vv M' j :=
  ⟨ht.mast, hF, by rw [hl]; exact h.slim, below_upd h.below ht.upd h.new h.below.size, h.new⟩
/-- Writing into a row of numbers that was made later. -/
theorem MastTo.number {cs : List Value} (h0 : MastIn w P p m lv nvs vv M) (ht : MastTo w w' P p m lv nvs vv M') (hn : M'.b.l.map (·.needs) = M.b.l.map (·.needs)) (hr : RowAt w' g 3 cs) (hg : w.heap.size ≤ g) (h1 : 0 < g) (i : Nat) (v : Value) :
    MastTo w (w'.setCell ⟨g, i, none⟩ v) P p m lv nvs vv M' := by
  have hu : Upd (fun k => k = g) w' (w'.setCell ⟨g, i, none⟩ v) := (Upd.refl (fun k => k = g) w').setCell (p := ⟨g, i, none⟩) (.inl rfl) v
  have hu0 : Upd (mastBlocks P p m lv vv) w (w'.setCell ⟨g, i, none⟩ v) := ht.upd.trans hu (fun _ e => .inr (e ▸ hg))
  have hng : ¬ mastBlocks P p m lv vv g := ht.mast.notOf hr.blk (by decide) (by decide) (by decide) (by decide)
  have hnb : ∀ k, boardBlocks p m lv k → ¬ k = g := fun k hk e => hng (.inr (.inr (e ▸ hk)))
  refine ⟨⟨ht.mast.struct.upd hu (fun e => hng (.inl e.symm)), ⟨?_, ?_, ?_, ht.mast.board.nlen, fun j hj hj' => ?_⟩, ownsRow_upd ht.mast.row hu (fun k hk e => hng (.inr (.inl (e ▸ hk)))), ht.mast.doors.upd hu (Nat.lt_of_le_of_lt (Nat.zero_le _) ht.mast.struct.lt) (fun e => by omega), ht.mast.far⟩, hu0⟩
  · exact (hu.block p (blk_lt ht.mast.board.struct) (hnb p (.inl rfl))).trans ht.mast.board.struct
  · exact ht.mast.board.at_.upd hu (hnb m (.inr (.inl rfl)))
  · exact ownsRow_upd ht.mast.board.row hu (fun k hk => hnb k (.inr (.inr hk)))
  · have hl : M'.b.l.length = M.b.l.length := by
      have := congrArg List.length hn
      simpa using this
    have he : M'.b.l[j].needs = (M.b.l[j]'(by omega)).needs := by
      have := congrArg (fun l => l[j]?) hn
      simp only [List.getElem?_map, List.getElem?_eq_getElem hj, List.getElem?_eq_getElem (show j < M.b.l.length by omega), Option.map_some, Option.some.injEq] at this
      exact this
    rw [he]
    exact (h0.board.needs j (by omega) hj').upd hu0 (fun k hk => h0.notOf hk (by decide) (by decide) (by decide) (by decide))
/-- Behind played. -/
structure Played (w0 w w' : World) (P p m : Nat) (lv : Value) (nvs : List Value) (vv : Value) (s : Sch.Master × List Nat) (k g : Nat) : Prop where
  my : MyM w0 w' P p m lv nvs vv s.1 k
  mast : MastTo w w' P p m lv nvs vv s.1
  row : RowAt w' g 3 (numRow s.2)
theorem Played.step {s : Sch.Master × List Nat} {w2 : World} (h : Played w0 w w' P p m lv nvs vv s k g) (hb : Below w'.heap.size w' w2) : Played w0 w w2 P p m lv nvs vv s k g :=
  ⟨h.my.step hb, h.mast.then (MastTo.below h.mast.mast hb), h.row.below hb⟩
set_option maxRecDepth 100000 in
set_option maxHeartbeats 4000000 in
theorem played_any (h : MyM w0 w P p m lv nvs vv M k) {a : Option Addr} {cap : Nat} {l : List Sch.Pick} (hp : PicksAt w0 a l) (hok : ∀ x ∈ l, okPick x) (hlen : l.length ≤ 1000) (hk : k ≤ 1000) :
    Calls Tryd.prog 11 #[.pointer (some ⟨P, 0, none⟩), .int .i64 (M.b.l.length : Int), .slice a l.length cap] w fun e w' => e = .returned (.tuple #[.slice (some ⟨w.heap.size, 0, none⟩) M.b.l.length M.b.l.length, .bool true]) ∧ Played w0 w w' P p m lv nvs vv (playAll (M, List.replicate M.b.l.length 0) l) (k + l.length) w.heap.size := by
  have hnl := h.fine.len
  obtain ⟨C, hrun, hC⟩ := ints_made w M.b.l.length (by omega)
  have hm1 : Below w.heap.size w (w.alloc (.cells C 3)) := (Below.refl _ _).alloc (Nat.le_refl _) _
  have hrow : RowAt (w.alloc (.cells C 3)) w.heap.size 3 (numRow (List.replicate M.b.l.length 0)) := by
    rw [← hC]; exact RowAt.made w C _
  have HP0 := Lib.hid (show Played w0 w (w.alloc (.cells C 3)) P p m lv nvs vv (M, List.replicate M.b.l.length 0) k w.heap.size from ⟨h.step hm1, MastTo.below h.mast hm1, hrow⟩)
  have HOK := Lib.hid ((PlayOk.start (M := M) h.fine).to l)
  have HM0 := Lib.hid h.mast
  have hg0 : 0 < w.heap.size := Nat.lt_of_le_of_lt (Nat.zero_le _) h.mast.struct.lt
  have HG0 := Lib.hid hg0
  have HW0 := Lib.hid h.below.size
  have HPK := Lib.hid hp; have HPO := Lib.hid hok
  obtain ⟨n, hn⟩ : ∃ n, n = M.b.l.length := ⟨_, rfl⟩
  have HN := Lib.hid hn
  rw [← hn] at HP0 HOK hrun hnl ⊢
  have HALL := Lib.hid (playTo_all (M, List.replicate n 0) l)
  have HTO := Lib.hid (fun j hj => playTo_succ (M, List.replicate n 0) l j hj)
  have HZ := Lib.hid (playTo_zero (M, List.replicate n 0) l)
  clear h hC hm1 hrow hp hok hn hg0
  go_enter Tryd.func11, Tryd.ntmps11
  go_wp2_with fail
  generalize hg : w.heap.size = g at *
  have HGW := Lib.hid hg
  go_loopw [9] (fun i wr => ∃ j : Nat, j ≤ l.length ∧ i = .int .i64 j ∧ Played w0 w wr P p m lv nvs vv (playTo (M, List.replicate n 0) l j) (k + j) g) (fun i _ => l.length - (intOf i).toNat)
  case atStart => exact ⟨0, Nat.zero_le _, rfl, by rw [HZ.out]; exact HP0.out⟩
  case round =>
    obtain ⟨j, hj, rfl, hpl⟩ := hrel
    have HPL := Lib.hid hpl
    clear hpl
    by_cases hlt : j < l.length
    · obtain ⟨q, hix, hpc⟩ := HPK.out.index cap j hlt
      have HO := Lib.hid (HOK.out j (by omega))
      have HT := Lib.hid (HTO.out j hlt)
      have hxo := HPO.out _ (List.getElem_mem hlt)
      generalize playTo (M, List.replicate n 0) l j = s at *
      generalize l[j] = x at *
      have HX := Lib.hid hxo
      obtain ⟨hx1, hx2, hx3⟩ := hxo
      have hdr : Below wr.heap.size wr wr.drew := (Below.refl _ _).drew
      have HP1 := Lib.hid (HPL.out.step hdr)
      have HP0C := Lib.hid hpc
      have hp1 := hpc.below HP1.out.my.below
      obtain ⟨c0, c1, c2⟩ := hp1.cells
      have HPC := Lib.hid hp1
      have HB := Lib.hid (board_any HP1.out.mast.mast)
      have hat := at_any HP1.out.mast.mast.board x.w hx2
      obtain ⟨at0, hat0⟩ : ∃ o, s.1.b.at_ x.w = o := ⟨_, rfl⟩
      rw [hat0] at hat
      have HA := Lib.hid hat
      have HAT := Lib.hid hat0
      clear hat hat0
      clear hpc hp1 hdr HPL
      go_wp2_with fail
      go_region_held3 (fun V => V.cell? ⟨q.block, q.off + 1, none⟩ = some (.int .i64 x.w))
        (exact c1)
        (first | (go_at_call 12; refine HB.out.mono ?_; rintro e wb ⟨rfl, rfl⟩) | (go_at_call 13; refine HA.out.mono ?_; rintro e wb ⟨rfl, rfl⟩))
      clear HB HA c0 c1 c2
      generalize wr.drew = wd at *
      go_upto_if 34 with fail
      go_cut [10] from 35 to 36 (fun s10 wx => s10 = .string (bs (playV s.1 x.w)) ∧ Played w0 w wx P p m lv nvs vv s (k + j) g ∧ PickAt wx q x)
      case first =>
        cases at0 with
        | none =>
          have HV := Lib.hid (show playV s.1 x.w = [] from by unfold playV; rw [HAT.out])
          go_wp2_with fail
          go_meet
          case rel => exact ⟨by rw [HV.out]; rfl, HP1.out, HPC.out⟩
        | some t =>
          have HV := Lib.hid (show playV s.1 x.w = valueOf t from by unfold playV; rw [HAT.out])
          have htl := HO.out.fine.at_lt HAT.out
          have htn := HO.out.fine.len
          have HVA := Lib.hid (value_any t (by omega))
          go_wp2_with fail
          refine (HVA.out _).mono ?_
          rintro e w1 ⟨rfl, hb⟩
          have HP2 := Lib.hid (HP1.out.step hb)
          have HPC2 := Lib.hid (HPC.out.below hb)
          clear hb
          go_wp2_with fail
          go_meet
          case rel => exact ⟨by rw [HV.out], HP2.out, HPC2.out⟩
      case rest =>
        obtain ⟨rfl, hpx, hcx⟩ := hcut
        obtain ⟨wx, rfl⟩ : ∃ wx : World, wx = wc := ⟨_, rfl⟩
        have HP2 := Lib.hid hpx; have HC2 := Lib.hid hcx
        obtain ⟨c0, c1, c2⟩ := hcx.cells
        have hd := hpx.my.do_ (by omega) x.d hx1 x.w x.t (playV s.1 x.w)
        have HDN := Lib.hid (fun V => hpx.my.done (w' := V) x (playV s.1 x.w))
        have HFI := Lib.hid (do_first HO.out.fine x (playV s.1 x.w))
        have HST := Lib.hid (show playStep s x = ((s.1.do_ x (playV s.1 x.w)).1, if (s.1.do_ x (playV s.1 x.w)).2.first then s.2.set (s.1.do_ x (playV s.1 x.w)).2.t.toNat (s.2.getD (s.1.do_ x (playV s.1 x.w)).2.t.toNat 0 + 1) else s.2) from rfl)
        have HNX := Lib.hid (show PlayOk M k (playStep s x) (j + 1) from HO.out.step x)
        rw [HST.out] at HNX HT
        generalize playV s.1 x.w = v at *
        change Calls _ _ _ _ (fun e w' => e = .returned (ansV (s.1.do_ x v).2) ∧ MastTo wx w' P p m lv nvs vv (s.1.do_ x v).1) at hd
        generalize s.1.do_ x v = r at *
        obtain ⟨M2, a1, a2, a3⟩ := r
        unfold ansV at hd
        have HD := Lib.hid hd
        clear hpx hcx HP1 HPC HAT hd HST
        go_wp2_with fail
        refine HD.out.mono ?_
        rintro e w3 ⟨rfl, ht⟩
        have HMY := Lib.hid (HDN.out _ ht)
        have HP3 := Lib.hid (show Played w0 w w3 P p m lv nvs vv (M2, s.2) (k + (j + 1)) g from ⟨HMY.out, HP2.out.mast.then ht, MastTo.numRow HP2.out.mast.mast HP2.out.row ht⟩)
        have hp3 := HP0C.out.below HP3.out.my.below
        have hbx : Below w3.heap.size w3 (w3.alloc (.cells #[.int .i64 a1, .bool a2] 42)) := (Below.refl _ _).alloc (Nat.le_refl _) _
        have HP4 := Lib.hid (HP3.out.step hbx)
        have hp4 := hp3.below hbx
        obtain ⟨c0, c1, c2⟩ := hp4.cells
        clear ht HMY HD HDN HP2 HC2 hp3 hp4 hbx
        cases a2 with
        | false =>
          have HT2 := Lib.hid (show playTo (M, List.replicate n 0) l (j + 1) = (M2, s.2) from HT.out.trans (by rw [if_neg (by decide)]))
          clear HT HNX HP3
          go_wp2_with fail
          go_roundw
          case rel => exact ⟨j + 1, by omega, by go_num, by rw [HT2.out]; exact HP4.out⟩
          case measure => simp [intOf]; omega
        | true =>
          obtain ⟨rfl, f1, f2, f3⟩ := HFI.out rfl
          rw [HO.out.tasks, ← HN.out] at f2
          obtain ⟨T, rfl⟩ : ∃ T : Nat, a1 = (T : Int) := ⟨a1.toNat, by omega⟩
          have hT : T < n := by omega
          have HT2 := Lib.hid (show playTo (M, List.replicate n 0) l (j + 1) = (M2, s.2.set T (s.2.getD T 0 + 1)) from HT.out.trans (by rw [if_pos rfl, Int.toNat_natCast]))
          have hlow := HO.out.low T
          have hsl : s.2.length = n := HO.out.row.trans HN.out.symm
          have hct := numRow_cell HP4.out.row T (by rw [hsl]; exact hT)
          have hfr := HP4.out.row.free T
          have hti := ints_index g n T hT
          have hdb : ((x.d : Int) != 2) = false := by rw [f3]; rfl
          have hlz : decide ((T : Int) < 0) = false := by simp
          have hge : decide ((n : Int) ≤ (T : Int)) = false := by simp; omega
          have HNE := Lib.hid (show M2.b.l.map (·.needs) = M.b.l.map (·.needs) from HNX.out.needs)
          generalize hcc : s.2.getD T 0 = c at *
          clear HT HNX HP3 f1 f2 HFI
          go_wp2_with fail
          have hset := MastTo.number HM0.out HP4.out.mast HNE.out HP4.out.row (Nat.le_of_eq HGW.out) HG0.out T (.int .i64 ((c + 1 : Nat) : Int))
          have hbw : Below w0.heap.size w0 (((w3.alloc (.cells #[.int .i64 (T : Int), .bool true] 42))).setCell ⟨g, T, none⟩ (.int .i64 ((c + 1 : Nat) : Int))) := HP4.out.my.below.setCell HW0.out _
          have HP5 := Lib.hid (show Played w0 w ((w3.alloc (.cells #[.int .i64 (T : Int), .bool true] 42)).setCell ⟨g, T, none⟩ (.int .i64 ((c + 1 : Nat) : Int))) P p m lv nvs vv (M2, s.2.set T (c + 1)) (k + (j + 1)) g from ⟨⟨hset.mast, HP4.out.my.fine, HP4.out.my.slim, hbw, HP4.out.my.new⟩, hset, by
            have := HP4.out.row.set T (.int .i64 ((c + 1 : Nat) : Int))
            rw [numRow_set] at this
            exact this⟩)
          clear hset hbw
          go_roundw
          case rel => exact ⟨j + 1, by omega, by go_num, by rw [HT2.out]; exact HP5.out⟩
          case measure => simp [intOf]; omega
    · obtain rfl : j = l.length := by omega
      have HEND := Lib.hid HPL.out
      rw [HALL.out] at HEND
      clear HPL
      go_wp2_with fail
      go_ret2
      rw [HGW.out]
      exact ⟨rfl, HEND.out⟩
end
end Go.Proofs.YtgmhglcdifhimaaDoor
