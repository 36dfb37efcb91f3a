/- maslinlaw32.ManifestSpoilt, walked. -/
import Derived.Test.YtdmbadkpendfhaaGreatDoorManE
import Derived.Test.YtdmbadkpendfhaaGreatDoorManSpoiltP
namespace Go.Proofs.YtdmbadkpendfhaaGreatDoor.Man
open Go.RowKit Go.Maps Go.ChangeShapes Go.WideShapes Wal Fil
set_option maxRecDepth 100000 in
/-- 'api.Manifest' as it came in. -/
theorem manifest_of_trod {H : Type} {enc : TypeId × Value → H} {W : World} {base : Nat} {v : Value} {d : DataW H} {p : List MemPlace}
    (ho : Value.okWide Tryz.prog W .any base 26 v) (h : DataW.Trod enc Tryz.prog W 0 (fun _ => true) true 26 v d p) (hz : ∀ n ∈ DataW.weights Tryz.prog 26 d, (decide (n ≤ reachBytes)) = true) :
    ∃ (n : Nat) (job : T) (outs : List T) (q : Option Addr) (cap : Nat), v = .agg #[.int .u64 (n : Int), .string (bs job), .slice q outs.length cap] ∧ n < 18446744073709551616 ∧ job.length ≤ reachBytes ∧ TextsIn W (.slice q outs.length cap) outs := by
  obtain ⟨cs, rfl, hcs⟩ := okWide_struct Tryz.underlying26 ho
  have hc3 : cs.size = 3 := hcs.trans (by kernel_rfl)
  obtain ⟨fuel, hf0⟩ := h
  have hf1 : DataW.trod enc Tryz.prog W 0 (fun _ => true) true fuel 26 cs.toList = some (d, p) := hf0
  have hl : cs.toList.length = 3 := by simpa using hc3
  obtain ⟨xs, n', _, hxe, _, hxl, hf⟩ := DataW.trod_struct Tryz.underlying26 hf1
  have o1 : Tryz.prog.cellsOf 22 = 1 := by kernel_rfl
  have o2 : Tryz.prog.cellsOf 9 = 1 := by kernel_rfl
  have o3 : Tryz.prog.cellsOf 23 = 1 := by kernel_rfl
  have hxl3 : xs.length = 3 := hxl
  have g0 : DataW.trod enc Tryz.prog W 0 (fun _ => true) true n' 22 ((cs.toList.drop 0).take (Tryz.prog.cellsOf 22)) = xs[0]? := hf 0 _ rfl
  have g1 : DataW.trod enc Tryz.prog W 0 (fun _ => true) true n' 9 ((cs.toList.drop 1).take (Tryz.prog.cellsOf 9)) = xs[1]? := hf 1 _ rfl
  have g2 : DataW.trod enc Tryz.prog W 0 (fun _ => true) true n' 23 ((cs.toList.drop 2).take (Tryz.prog.cellsOf 23)) = xs[2]? := hf 2 _ rfl
  rw [o1, one_at hl _ (by omega), List.getElem?_eq_getElem (by omega)] at g0
  rw [o2, one_at hl _ (by omega), List.getElem?_eq_getElem (by omega)] at g1
  rw [o3, one_at hl _ (by omega), List.getElem?_eq_getElem (by omega)] at g2
  obtain ⟨v0, e0, _, w0⟩ := DataW.trod_int Tryz.underlying22 g0
  obtain ⟨v1, e1, y1, _⟩ := DataW.trod_string Tryz.underlying9 g1
  have hd : d = .agg (xs.map (·.1)) := by
    have := congrArg Prod.fst hxe
    exact this
  obtain ⟨v2, l2, e2, t2⟩ := texts_core g2 (fun k hk => of_decide_eq_true (hz k (by
    rw [hd]
    simp only [DataW.weights, Tryz.underlying26]
    refine DataW.weights_mem_each (j := 2) (t := 23) (d := (xs[2]'(by omega)).1) rfl ?_ _ hk
    rw [List.getElem?_map, List.getElem?_eq_getElem (by omega)]
    rfl)))
  have h1 : v1.data.toList.length ≤ reachBytes := of_decide_eq_true (hz _ (by
    rw [hd]
    simp only [DataW.weights, Tryz.underlying26]
    refine DataW.weights_mem_each (j := 1) (t := 9) (d := .lit (.string v1.data.toList)) rfl ?_ _ (by simp [DataW.weights])
    rw [List.getElem?_map, List.getElem?_eq_getElem (by omega), y1]
    rfl))
  have hr : 0 ≤ v0 ∧ v0 ≤ 18446744073709551615 := by simp [Lit.wf, IntKind.min, IntKind.max, IntKind.signed, IntKind.bits] at w0; omega
  obtain ⟨n, rfl⟩ := Int.eq_ofNat_of_zero_le hr.1
  obtain ⟨⟨q, cap, rfl, ht, hq⟩, hlen, hall⟩ := t2
  refine ⟨n, v1.data.toList, l2, q, cap, ?_, by omega, h1, ⟨⟨q, cap, rfl, ht, hq⟩, hlen, hall⟩⟩
  have e : cs.toList = [.int .u64 (n : Int), .string v1, .slice q l2.length cap] := by
    apply List.ext_getElem (by rw [hl]; rfl)
    intro i hi _
    have hi3 : i < 3 := by omega
    match i, hi3 with
    | 0, _ => simpa using e0
    | 1, _ => simpa using e1
    | 2, _ => simpa using e2
  obtain ⟨L⟩ := cs
  simp only at e
  rw [e]
  rfl
section
variable {B : Nat} {w0 w w' : World} {b y n N : Nat} {A A' : M} {L : List (Nat × Obj)}
theorem myk_names (h : MyK B w0 w b y n N A L) : Calls Tryz.prog 15 #[.pointer (some ⟨y, 0, none⟩)] w fun e w' => ∃ v, e = .returned v ∧ w'.ownsRow 0 9 1 v A.length (strCells (A.map (·.1))) ∧ Below w.heap.size w w' := by
  obtain ⟨bl, h1, h3, h2⟩ := h.pick
  exact (fst_names h1).mono fun e w' ⟨v, he, hr, _, hb, _⟩ => ⟨v, he, hr, hb⟩
theorem myk_get (h : MyK B w0 w b y n N A L) (k : T) (hk : k.length ≤ maxLen) :
    Calls Tryz.prog 16 #[.pointer (some ⟨y, 0, none⟩), .string (bs k)] w fun e w' => e = .returned (.tuple #[.string (bs ((Fil.get A k).getD [])), .bool (Fil.get A k).isSome]) ∧ Below w.heap.size w w' := by
  obtain ⟨bl, h1, h3, h2⟩ := h.pick
  exact (fst_get h1 k hk).mono fun e w' ⟨he, _, hb⟩ => ⟨he, hb⟩
end
def oneStep (v : Nat) (job : T) (vs : Value) : Array Value := #[.int .i64 0, .int .i64 0, .int .u64 (v : Int), .string (bs job), vs, .slice none 0 0, .string { data := #[] }]
theorem one_step {w : World} {vs : Value} {outs : List T} (v : Nat) (job : T) (ho : TextsIn w vs outs) {g : Nat} (hg : w.heap.size = g) :
    StpsIn (w.alloc (.cells (oneStep v job vs) 28)) (some ⟨g, 0, none⟩) [⟨0, 0, v, job, outs, [], []⟩] := by
  subst hg
  have hbel := below_alloc w (.cells (oneStep v job vs) 28)
  have hc : ∀ k i, (w.alloc (.cells (oneStep v job vs) 28)).cell? (((⟨w.heap.size, 0, none⟩ : Addr).add k).add i) = (oneStep v job vs)[k + i]? := fun k i => by
    rw [Addr.add_add, add_plain]
    exact cell_of_row _ _ _ _ _ _ (heap_alloc_new w _)
  have hnil : TextsIn (w.alloc (.cells (oneStep v job vs) 28)) (.slice none 0 0) [] := ⟨⟨none, 0, rfl, fun i hi => by simp at hi, fun _ => rfl⟩, by simp, by simp⟩
  intro i hi
  refine ⟨_, rfl, ?_⟩
  rcases i with _ | i
  · constructor
    · rw [hc]; rfl
    · rw [hc]; rfl
    · rw [hc]; rfl
    · rw [hc]; rfl
    · exact ⟨_, by rw [hc]; rfl, ho.below hbel⟩
    · exact ⟨_, by rw [hc]; rfl, hnil⟩
    · rw [hc]; rfl
  · simp at hi
-- MAIN
theorem byte_index {cap g : Nat} (n k : Nat) (hk : k < n) (W : World) : (Instr.indexAt 49 (.slice (some ⟨g, 0, none⟩) n cap) (.int .i64 (k : Int))).run Tryz.prog W = .ok (.pointer (some ⟨g, k, none⟩)) W := by
  have h := run_index_slice Tryz.prog 49 5 Tryz.underlying49 1 (by kernel_rfl) ⟨g, 0, none⟩ n cap k hk W
  rw [add_plain, Nat.mul_one] at h
  exact h
theorem ot_sum (l : List T) (h : ∀ s ∈ l, s.length ≤ 65531) : (l.map List.length).sum ≤ 8 * otCost l := by
  induction l with
  | nil => simp
  | cons x l ih =>
    have h1 := ih (fun s hs => h s (List.mem_cons_of_mem _ hs))
    have h2 := h x List.mem_cons_self
    have e : otCost (x :: l) = min x.length 8192 + otCost l := by simp [otCost]
    rw [e, List.map_cons, List.sum_cons]
    omega
set_option maxRecDepth 100000 in
set_option maxHeartbeats 400000 in
theorem manSpoilt_any (w : World) (v : Nat) (hv : v < 18446744073709551616) (job : T) (hj : job.length ≤ reachBytes) {q : Option Addr} {cap : Nat} {outs : List T} (ho : TextsIn w (.slice q outs.length cap) outs) (which at_ : Nat) (hwh : which < 65536) (hat : at_ < 65536) (c : UInt8) :
    Calls Tryz.prog 4 #[.agg #[.int .u64 (v : Int), .string (bs job), .slice q outs.length cap], .int .u16 (which : Int), .int .u16 (at_ : Int), .int .u8 (c.toNat : Int)] w fun e w' => e = .returned (.bool true) ∧ Below w.heap.size w w' := by
  have hb0 := below_alloc w (.cells #[.int .u64 (v : Int), .string (bs job), .slice q outs.length cap] 26)
  have hst := one_step (g := w.heap.size + 1) v job (ho.below hb0) (World.size_alloc _ _)
  unfold oneStep at hst
  obtain ⟨⟨q', cap', hqe, hot, hoq⟩, hol, hoe⟩ := ho
  injection hqe with hq1 _ hq2
  subst hq1 hq2
  have hheavy := heavy32_any 200 (some ⟨w.heap.size + 1, 0, none⟩) 1 _ _ hst (by simp) (by
    intro x hx
    simp only [List.mem_cons, List.not_mem_nil, or_false] at hx
    subst hx
    refine ⟨by simp, ?_, by simp⟩
    show job.length ≤ _
    omega)
  have HH := Lib.hid hheavy
  have HT := Lib.hid (hot.below hb0)
  have HOE := Lib.hid hoe
  have HMB := Lib.hid (heap_alloc_new w (.cells #[.int .u64 (v : Int), .string (bs job), .slice q outs.length cap] 26))
  have HLM := Lib.hid (show w.heap.size < (w.alloc (.cells #[.int .u64 (v : Int), .string (bs job), .slice q outs.length cap] 26)).heap.size by rw [World.size_alloc]; omega)
  have HB0 := Lib.hid hb0
  obtain ⟨m0, m1, m2, _⟩ := row3 HMB.out
  clear hheavy hst hot hoe hb0
  go_enter Tryz.func4, Tryz.ntmps4
  go_wp2_with fail
  refine HH.out.mono ?_
  rintro e w1 ⟨hv1, rfl, hb1, hlight⟩
  obtain ⟨W0, hW0⟩ : ∃ W, w.alloc (.cells #[.int .u64 (v : Int), .string (bs job), .slice q outs.length cap] 26) = W := ⟨_, rfl⟩
  rw [hW0] at hb1 HMB HLM HT HB0
  have HB1 := Lib.hid ((below_alloc W0 _).trans (hb1.mono (below_alloc W0 _).size))
  have HA1 := Lib.hid (HB0.out.trans (HB1.out.mono HB0.out.size))
  clear hb1 HH m0 m1 m2 hW0
  cases hv1 with
  | true =>
    go_wp2_with fail
    refine (alive32_any _).mono ?_
    rintro e wz ⟨rfl, hbz⟩
    have HBZ := Lib.hid (HA1.out.trans (hbz.mono HA1.out.size))
    clear hbz
    go_wp2_with fail
    go_ret
    exact ⟨rfl, HBZ.out⟩
  | false =>
    obtain ⟨⟨hcost, hrows⟩, _⟩ := hlight rfl
    clear hlight
    by_cases hc0 : c = 0
    · subst hc0
      have hci : (((0 : UInt8).toNat : Nat) : Int) = 0 := by decide
      rw [hci]
      go_wp2_with fail
      refine (alive32_any _).mono ?_
      rintro e wz ⟨rfl, hbz⟩
      have HBZ := Lib.hid (HA1.out.trans (hbz.mono HA1.out.size))
      clear hbz
      go_wp2_with fail
      go_ret
      exact ⟨rfl, HBZ.out⟩
    have hcn : c.toNat ≠ 0 := fun e => hc0 (by rw [← UInt8.toNat_inj, e]; rfl)
    have hci : ¬ ((c.toNat : Nat) : Int) = 0 := by omega
    have hro : outs.length ≤ 20 := (hrows ⟨0, 0, v, job, outs, [], []⟩ (by simp)).2
    have hcst : otCost outs ≤ 16384 := by
      have : costs [⟨0, 0, v, job, outs, [], []⟩] = job.length + otCost outs := by simp [costs, Stp.cost, tkCost]
      omega
    have HSUM := Lib.hid (fun hs => show (outs.map List.length).sum ≤ 800000 by have := ot_sum outs hs; omega)
    clear hcost hrows hcst
    go_wp2_with fail
    refine (made32_any 200 (by omega) (by omega) _).mono ?_
    rintro e w2 ⟨bk, y, rfl, h2⟩
    have H2 := Lib.hid (MyK.of h2)
    have HW2 := Lib.hid (HB1.out.trans (h2.1.mono HB1.out.size))
    clear h2
    obtain ⟨m0, m1, m2, _⟩ := row3 ((HW2.out.block w.heap.size HLM.out).trans HMB.out)
    go_wp2_with fail
    have hp := myk_publish (cap := cap) H2.out (by omega) (HT.out.below HW2.out) (by omega) (fun s hs => by have := HOE.out s hs; unfold reachBytes at this; omega) v hv job HSUM.out
    obtain ⟨e0, he0⟩ : ∃ e, (pubT 200 [] v job outs).1 = e := ⟨_, rfl⟩
    obtain ⟨A1, hA1⟩ : ∃ A, (pubT 200 [] v job outs).2 = A := ⟨_, rfl⟩
    have hz := publish_zero (job := job) (l := outs) hv
    rw [he0, hA1] at hp hz
    have HZ := Lib.hid hz
    refine hp.mono ?_
    clear hp hz he0 hA1
    rintro e w3 ⟨rfl, h3, _⟩
    have H3 := Lib.hid h3
    have HW3 := Lib.hid (HB1.out.trans (h3.bel.mono HB1.out.size))
    have HA3 := Lib.hid (HA1.out.trans (h3.bel.mono HA1.out.size))
    clear h3 H2 HW2 m0 m1 m2
    rcases Decidable.em (e0 = 0) |>.symm with hez | hez
    · have hezi : ¬ e0 = (0 : Int) := hez
      go_wp2_with fail
      refine (alive32_any _).mono ?_
      rintro e wz ⟨rfl, hbz⟩
      have HBZ := Lib.hid (HA3.out.trans (hbz.mono HA3.out.size))
      clear hbz
      go_wp2_with fail
      go_ret
      exact ⟨rfl, HBZ.out⟩
    subst hez
    obtain ⟨hl16, hs, S, hP, hU⟩ := HZ.out rfl
    obtain ⟨hup, hgood, hus⟩ := myk_up H3.out
    have hAl := hP.length hl16
    go_wp2_with fail
    refine (myk_names H3.out).mono ?_
    rintro e w4 ⟨nv, rfl, hn4, hb4⟩
    obtain ⟨nq, ncap, rfl⟩ := slice_len hn4
    have H4 := Lib.hid (H3.out.step hb4)
    have HW4 := Lib.hid (HW3.out.trans (hb4.mono HW3.out.size))
    have hnl : (A1.map (·.1)).length = A1.length := List.length_map _
    have HN4 := Lib.hid (textsAt_of_row (l := A1.map (·.1)) (n := A1.length) (c := ncap) (a := nq) (base := 0) (by unfold RowAt; rw [hnl]; exact hn4))
    clear hn4 hb4 H3
    obtain ⟨m0, m1, m2, _⟩ := row3 ((HW4.out.block w.heap.size HLM.out).trans HMB.out)
    have hAli : (A1.length : Int) = (outs.length : Int) + 1 := by omega
    have hApos : 0 < A1.length := by omega
    obtain ⟨ix, hix⟩ : ∃ ix, which % A1.length = ix := ⟨_, rfl⟩
    have hixl : ix < A1.length := by rw [← hix]; exact Nat.mod_lt _ hApos
    obtain ⟨nm, hidx, hcell⟩ := (HN4.out).index ncap ix (by rw [hnl]; exact hixl)
    have hixi : (which : Int) % ((outs.length : Int) + 1) = (ix : Int) := by rw [← hix, hAl]; simp
    have hidx2 : ∀ W, (Instr.indexAt 23 (.slice nq (outs.length + 1) ncap) (.int .i64 ((which : Int) % ((outs.length : Int) + 1)))).run Tryz.prog W = .ok (.pointer (some nm)) W := fun W => by
      have h := hidx W
      rw [hnl, hAl] at h
      rw [hixi]
      exact h
    have hAe : A1[ix] ∈ A1 := List.getElem_mem hixl
    have hge : (A1.map (·.1))[ix]'(by rw [hnl]; exact hixl) = A1[ix].1 := by simp
    obtain ⟨⟨k, d⟩, hkd⟩ : ∃ p, A1[ix] = p := ⟨_, rfl⟩
    rw [hkd] at hAe hge
    rw [hge] at hcell
    have hget : Fil.get A1 k = some d := get_mem hup hAe
    have hgb := hgood _ hAe
    unfold mayB at hgb
    have hgb2 := of_decide_eq_true hgb
    have hkl : k.length ≤ 32 := hgb2.2.1
    have hdl : d.length ≤ 65535 := hgb2.2.2
    have hd4 : 4 ≤ d.length := by
      obtain ⟨x, hx⟩ := hP.sealed hU hAe
      have hx : d = Crc.sealT x := hx
      rw [hx, Crc.seal_length]; omega
    obtain ⟨jx, hjx⟩ : ∃ jx, at_ % d.length = jx := ⟨_, rfl⟩
    have hjl : jx < d.length := by rw [← hjx]; exact Nat.mod_lt _ (by omega)
    obtain ⟨A2, A3, s1, s2, s3, s4, s5, s6⟩ := spoilt_plain (again := againT) hP hl16 hgood hus hU hAe hjl hc0 (by decide)
    obtain ⟨d', hd'⟩ : ∃ d', d.set jx (d[jx] ^^^ c) = d' := ⟨_, rfl⟩
    rw [hd'] at s1 s2
    have hdl' : d'.length = d.length := by rw [← hd']; simp
    have S1 := Lib.hid s1; have S2 := Lib.hid s2; have S3 := Lib.hid s3; have S4 := Lib.hid s4; have S5 := Lib.hid s5; have S6 := Lib.hid s6
    have hjxi : (at_ : Int) % (d.length : Int) = (jx : Int) := by rw [← hjx]; simp
    have HGET := Lib.hid hget
    clear s1 s2 s3 s4 s5 s6 hidx hgb hgb2 hkd hge hAe hget hixi hgood hup hus hP hU HN4
    go_wp2_with fail
    have hp := myk_get H4.out k (by unfold maxLen; omega)
    rw [HGET.out] at hp
    simp only [Option.getD_some, Option.isSome_some] at hp
    refine hp.mono ?_
    clear hp
    rintro e w5 ⟨rfl, hb5⟩
    have H5 := Lib.hid (H4.out.step hb5)
    have HW5 := Lib.hid (HW4.out.trans (hb5.mono HW4.out.size))
    clear hb5 H4 hidx2 hcell m0 m1 m2
    obtain ⟨W6, cap0, hconv, hrow0, hb6⟩ := byte_conv Tryz.prog 9 49 Tryz.underlying9 Tryz.underlying49 Tryz.underlying5 w5 d (by omega)
    have hbi := fun W => byte_index (cap := cap0) (g := w5.heap.size) d.length jx hjl W
    have hcj := hrow0.cell jx hjl
    have hfj : W6.frozen? ⟨w5.heap.size, jx, none⟩ = false := by
      obtain ⟨C, fz, f1, f2, f3, f4⟩ := hrow0.row
      have := hrow0.le
      simp [World.frozen?, f1]
      omega
    have hxor : bits .xor .u8 ((d[jx].toNat : Nat) : Int) ((c.toNat : Nat) : Int) = (((d[jx] ^^^ c).toNat : Nat) : Int) := by
      rw [u8_xor_nat _ _ d[jx].toNat_lt c.toNat_lt, UInt8.toNat_xor]
    have hd0 : ¬ (d.length : Int) = 0 := by omega
    have hcv2 : (convert 49 9 (.slice (some ⟨w5.heap.size, 0, none⟩) d.length cap0)).run Tryz.prog (W6.setCell ⟨w5.heap.size, jx, none⟩ (.int .u8 ((d[jx].toNat ^^^ c.toNat : Nat) : Int))) = .ok (.string (bs d')) (W6.setCell ⟨w5.heap.size, jx, none⟩ (.int .u8 ((d[jx].toNat ^^^ c.toNat : Nat) : Int))) := by
      obtain ⟨C, fz, f1, f2, f3, f4⟩ := hrow0.row
      have f5 := setCell_fz (i := jx) f1 (.int .u8 ((d[jx].toNat ^^^ c.toNat : Nat) : Int))
      refine run_bytes_bs Tryz.prog _ 49 5 9 Tryz.underlying49 Tryz.underlying5 Tryz.underlying9 _ 0 _ cap0 d' hdl' (fun i hi => ?_)
      have hid : i < d.length := by omega
      have hci2 := hrow0.cell i hid
      rw [cell_of_row _ _ _ _ _ _ f1] at hci2
      rw [Nat.zero_add, cell_of_row _ _ _ _ _ _ f5, Array.getElem?_setIfInBounds]
      subst hd'
      by_cases hij : jx = i
      · subst hij
        rw [if_pos rfl, if_pos (by have := hrow0.le; omega)]
        simp [UInt8.toNat_xor]
      · rw [if_neg hij, hci2]
        simp [hij]
    have hb7 := hb6.setCell (p := ⟨w5.heap.size, jx, none⟩) (Nat.le_refl _) (.int .u8 ((d[jx].toNat ^^^ c.toNat : Nat) : Int))
    have H7 := Lib.hid (H5.out.step hb7)
    have HW7 := Lib.hid (HW5.out.trans (hb7.mono HW5.out.size))
    clear hb7 hrow0 hb6 H5 hd'
    go_wp2_with fail
    have hrw : ((W6.setCell ⟨w5.heap.size, jx, none⟩ (.int .u8 ((d[jx].toNat ^^^ c.toNat : Nat) : Int))).alloc (.cells #[.string (bs k), .string (bs d'), .bool false] 52)).heap[W6.heap.size]? = some (.cells #[.string (bs k), .string (bs d'), .bool false] 52) := by
      have h := heap_alloc_new (W6.setCell ⟨w5.heap.size, jx, none⟩ (.int .u8 ((d[jx].toNat ^^^ c.toNat : Nat) : Int))) (.cells #[.string (bs k), .string (bs d'), .bool false] 52)
      rwa [show (W6.setCell ⟨w5.heap.size, jx, none⟩ (.int .u8 ((d[jx].toNat ^^^ c.toNat : Nat) : Int))).heap.size = W6.heap.size by simp] at h
    have hp := myk_commit (cap := 1) (l := [⟨k, d', false⟩]) (H7.out.step (below_alloc _ (.cells #[.string (bs k), .string (bs d'), .bool false] 52))) (by omega) (chgs_one (c := ⟨k, d', false⟩) hrw) (by simp) (by simp [weigh]; omega)
    rw [S1.out, S2.out] at hp
    refine hp.mono ?_
    clear hp
    rintro e w8 ⟨rfl, h8, _⟩
    have H8 := Lib.hid h8
    clear h8 H7 hcv2 hconv hbi hcj hfj hxor
    go_wp2_with fail
    have hp := myk_latest H8.out
    rw [S3.out] at hp
    refine hp.mono ?_
    clear hp
    rintro e w9 ⟨hb9, rfl⟩
    have H9 := Lib.hid ((H8.out.step hb9).new (.cells #[.int .u64 0, .string (bs []), .slice none 0 0] 26))
    clear hb9 H8
    go_wp2_with fail
    have hp := myk_publish (q := none) (cap := 0) (outs := []) H9.out (by omega) (fun i hi => by simp at hi) (by simp) (by simp) 0 (by omega) againT (fun _ => by simp)
    rw [S4.out] at hp
    refine hp.mono ?_
    clear hp
    rintro e w10 ⟨rfl, h10, _⟩
    have H10 := Lib.hid h10
    clear h10 H9
    go_wp2_with fail
    have hp := myk_latest H10.out
    rw [S5.out] at hp
    refine hp.mono ?_
    clear hp
    rintro e w11 ⟨hb11, sl, rfl, ho11, _⟩
    obtain ⟨q11, cap11, rfl⟩ := slice_len ho11
    have H11 := Lib.hid ((H10.out.step hb11).new (.cells #[.int .u64 0, .string (bs againT), .slice q11 0 cap11] 26))
    clear hb11 ho11 H10
    have m0 := H11.out.cell (k := w9.heap.size) (cs := #[.int .u64 0, .string (bs []), .slice none 0 0]) (t := 26) (by simp) 0
    have m1 := H11.out.cell (k := w9.heap.size) (cs := #[.int .u64 0, .string (bs []), .slice none 0 0]) (t := 26) (by simp) 1
    have m2 := H11.out.cell (k := w9.heap.size) (cs := #[.int .u64 0, .string (bs []), .slice none 0 0]) (t := 26) (by simp) 2
    go_wp2_with fail
    refine (same32_any (base := 0) (base2 := 0) (v1 := 0) (v2 := 0) (j1 := []) (j2 := []) (l := []) (k := []) (s1 := .slice none 0 0) (s2 := .slice none 0 0) _ (by unfold RowAt; rw [strCells_enc]; exact World.ownsRow_nil _ _ _ _) (by unfold RowAt; rw [strCells_enc]; exact World.ownsRow_nil _ _ _ _) (by simp) (by simp) ⟨rfl, rfl, rfl⟩).mono ?_
    rintro e w12 ⟨rfl, hb12⟩
    have H12 := Lib.hid (H11.out.step hb12)
    clear hb12 H11 m0 m1 m2
    have n1 := H12.out.cell (k := w11.heap.size) (cs := #[.int .u64 0, .string (bs againT), .slice q11 0 cap11]) (t := 26) (by simp) 1
    have hag : (againT == [97, 103, 97, 105, 110]) = true := by decide
    go_wp2_with fail
    refine (myk_names H12.out).mono ?_
    rintro e w13 ⟨nv, rfl, hn13, hb13⟩
    obtain ⟨nq2, ncap2, rfl⟩ := slice_len hn13
    have H13 := Lib.hid (H12.out.step hb13)
    have hA3i : (A3.length : Int) = 1 := by rw [S6.out]; rfl
    have HA13 := Lib.hid (HA1.out.trans (H13.out.bel.mono HA1.out.size))
    clear hn13 hb13 H12 n1
    go_wp2_with fail
    refine (alive32_any _).mono ?_
    rintro e wz ⟨rfl, hbz⟩
    have HBZ := Lib.hid (HA13.out.trans (hbz.mono HA13.out.size))
    clear hbz
    go_wp2_with fail
    go_ret
    exact ⟨rfl, HBZ.out⟩
end Go.Proofs.YtdmbadkpendfhaaGreatDoor.Man
namespace Go.Proofs.YtdmbadkpendfhaaGreatDoor
open Go.RowKit
set_option maxRecDepth 100000 in
theorem manifestSpoilt_any {H : Type} {enc : TypeId × Value → H} {base0 : Nat} (W : World) (v0 : Value) (d0 : DataW H) (p0 : List MemPlace)
    (ho0 : Value.okWide Tryz.prog W .any base0 26 v0) (h0 : DataW.Trod enc Tryz.prog W 0 (fun _ => true) true 26 v0 d0 p0) (hz0 : ∀ n ∈ DataW.weights Tryz.prog 26 d0, (decide (n ≤ reachBytes)) = true)
    (which : Int) (hwh : (Lit.int .u16 which).wf = true) (at_ : Int) (hat : (Lit.int .u16 at_).wf = true) (by_ : Int) (hby : (Lit.int .u8 by_).wf = true) :
    Calls Tryz.prog 4 #[v0, .int .u16 which, .int .u16 at_, .int .u8 by_] W fun e W' => e = .returned (.bool true) ∧ Below W.heap.size W W' := by
  obtain ⟨n, job, outs, q, cap, rfl, hn, hj, ht⟩ := Man.manifest_of_trod ho0 h0 hz0
  have h1 : 0 ≤ which ∧ which ≤ 65535 := by simp [Lit.wf, IntKind.min, IntKind.max, IntKind.signed, IntKind.bits] at hwh; omega
  have h2 : 0 ≤ at_ ∧ at_ ≤ 65535 := by simp [Lit.wf, IntKind.min, IntKind.max, IntKind.signed, IntKind.bits] at hat; omega
  have h3 : 0 ≤ by_ ∧ by_ ≤ 255 := by simp [Lit.wf, IntKind.min, IntKind.max, IntKind.signed, IntKind.bits] at hby; omega
  obtain ⟨a, rfl⟩ := Int.eq_ofNat_of_zero_le h1.1
  obtain ⟨b, rfl⟩ := Int.eq_ofNat_of_zero_le h2.1
  obtain ⟨c, rfl⟩ := Int.eq_ofNat_of_zero_le h3.1
  have hc : ((UInt8.ofNat c).toNat : Nat) = c := by
    rw [u8_ofNat]
    omega
  have h := Man.manSpoilt_any W n hn job hj ht a b (by omega) (by omega) (UInt8.ofNat c)
  rw [hc] at h
  exact h
end Go.Proofs.YtdmbadkpendfhaaGreatDoor
