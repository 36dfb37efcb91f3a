/- FilesOnce, walked. -/
import Derived.Test.YtcljpnkknehlmaaGreatFilOnceLaw
import Derived.Test.YtcljpnkknehlmaaGreatTextsSame
import Derived.Deep.RegionHeld3
import Derived.BigQuiet
namespace Go.Proofs.YtcljpnkknehlmaaGreat
open Go.RowKit Go.Maps
open Fil

/-- A part of changes that came in. -/
theorem chgs_from (q : Option Addr) (n cap k : Nat) (hk : k ≤ n) : ∃ (q' : Option Addr) (c' : Nat), (∀ W, (Instr.slice 22 (.slice q n cap) (some (.int .i64 (k : Int))) none none).run Tryz.prog W = .ok (.slice q' (n - k) c') W) ∧
    ∀ W l, l.length = n → n ≤ cap → ChgsAt W q l → ChgsAt W q' (l.drop k) := by
  refine ⟨if cap = k then q else q.map (·.add (k * 3)), cap - k, fun W => ?_, fun W l hl hc hat i hi => ?_⟩
  · have he : Tryz.prog.elem 22 = 35 := by kernel_rfl
    rw [run_slice_l W 22 q n cap (by rw [he]; exact Tryz.underlying22) .i64 (k : Int) (by omega) (by omega)]
    have hs : (Tryz.prog.info? 35).map (·.size) = some 3 := by kernel_rfl
    cases hq : Tryz.prog.info? 35 with
    | none => rw [hq] at hs; cases hs
    | some i =>
      have h1 : i.size = 3 := by rw [hq] at hs; simpa using hs
      simp [sizeOf, typeInfo, hq, h1, sliced, Result.andThen, go_sem]
  · rw [List.length_drop] at hi
    have hne : ¬ cap = k := by omega
    obtain ⟨p, e, hcell⟩ := hat (k + i) (by omega)
    subst e
    refine ⟨p.add (k * 3), by rw [if_neg hne]; rfl, ?_⟩
    rw [List.getElem_drop]
    have e : (p.add (k * 3)).add (i * 3) = p.add ((k + i) * 3) := by
      unfold Addr.add
      by_cases h0 : k = 0
      · subst h0; simp
      · by_cases h1 : i = 0
        · subst h1; simp
        · have h2 : ¬ (k + i) * 3 = 0 := by omega
          have h3 : ¬ k * 3 = 0 := by omega
          have h4 : ¬ i * 3 = 0 := by omega
          simp only [h2, h3, h4, if_false, Nat.add_assoc, ← Nat.add_mul]
    rw [e]
    exact hcell
theorem chgs_to (q : Option Addr) (n cap k : Nat) (hk : k ≤ n) (hn : n ≤ cap) (W : World) : (Instr.slice 22 (.slice q n cap) none (some (.int .i64 (k : Int))) none).run Tryz.prog W = .ok (.slice q k cap) W := by
  have he : Tryz.prog.elem 22 = 35 := by kernel_rfl
  rw [run_slice_h W 22 q n cap (by rw [he]; exact Tryz.underlying22) .i64 (k : Int) (by omega) (by omega)]
  have hs : (Tryz.prog.info? 35).map (·.size) = some 3 := by kernel_rfl
  cases hq : Tryz.prog.info? 35 with
  | none => rw [hq] at hs; cases hs
  | some i =>
    have h1 : i.size = 3 := by rw [hq] at hs; simpa using hs
    simp [sizeOf, typeInfo, hq, h1, sliced, Result.andThen, go_sem]
theorem chgs_take {w : World} {a : Option Addr} {l : List Chg} (h : ChgsAt w a l) (k : Nat) : ChgsAt w a (l.take k) := fun i hi => by
  rw [List.length_take] at hi
  rw [List.getElem_take]
  exact h i (by omega)
theorem weigh_part {l : List Chg} (k : Nat) : weigh (l.take k) ≤ weigh l ∧ weigh (l.drop k) ≤ weigh l := by
  have : weigh l = weigh (l.take k) + weigh (l.drop k) := by
    conv => lhs; rw [← List.take_append_drop k l]
    unfold weigh
    rw [List.map_append, List.sum_append]
  omega

def yOf (L : List Fl) (i : Nat) : Value := .pointer ((L[i]?).map fun f => ⟨f.y, 0, none⟩)
def arrY (L : List Fl) : Array Value := #[yOf L 0, yOf L 1, yOf L 2]
/-- Files from block B on, and the row of them at block fb. -/
def Tri (B : Nat) (w0 w : World) (fb n : Nat) (L : List Fl) : Prop := Fils B w0 w (fun k => k = fb) n L ∧ B ≤ fb ∧ w.heap[fb]? = some (.cells (arrY L) 26)
theorem arrY_snoc (L : List Fl) (f : Fl) (h : L.length < 3) : arrY (L ++ [f]) = (arrY L).setIfInBounds L.length (.pointer (some ⟨f.y, 0, none⟩)) := by
  match L, h with
  | [], _ => rfl
  | [_], _ => rfl
  | [_, _], _ => rfl
section
variable {B : Nat} {w0 w w' : World} {fb n : Nat} {L : List Fl}
theorem Tri.step (h : Tri B w0 w fb n L) (hb : Below w.heap.size w w') : Tri B w0 w' fb n L :=
  ⟨h.1.step hb, h.2.1, (hb.block fb (blk_lt h.2.2)).trans h.2.2⟩
theorem tri_of_new {f : Fl} (h : Tri B w0 w fb n L) (hk : w'.heap[fb]? = w.heap[fb]?) (hf : Fils B w0 w' (fun k => k = fb) n (L ++ [f])) (h3 : L.length < 3) : Tri B w0 (w'.setCell ⟨fb, L.length, none⟩ (.pointer (some ⟨f.y, 0, none⟩))) fb n (L ++ [f]) := by
  have hr := hk.trans h.2.2
  refine ⟨hf.upd (P := fun k => k = fb) ((Upd.refl (fun k => k = fb) _).setCell (p := ⟨fb, L.length, none⟩) (.inl rfl) _) (fun k hq e => ?_) (fun k e => ⟨by rw [e]; exact h.2.1, .inl e⟩), h.2.1, ?_⟩
  · subst e
    exact BlkOf.ne hq ⟨_, _, hr⟩ (by decide) rfl
  · rw [heap_setCell_same _ _ _ _ _ _ hr, arrY_snoc L f h3]
theorem Tri.cells (h : Tri B w0 w fb n L) : w.cell? ⟨fb, 0, none⟩ = some (yOf L 0) ∧ w.cell? ⟨fb, 1, none⟩ = some (yOf L 1) ∧ w.cell? ⟨fb, 2, none⟩ = some (yOf L 2) := by
  refine ⟨?_, ?_, ?_⟩ <;> rw [cell_of_row w fb _ _ _ _ h.2.2] <;> rfl
theorem Tri.cells3 {f0 f1 f2 : Fl} (h : Tri B w0 w fb n [f0, f1, f2]) : w.cell? ⟨fb, 0, none⟩ = some (.pointer (some ⟨f0.y, 0, none⟩)) ∧ w.cell? ⟨fb, 1, none⟩ = some (.pointer (some ⟨f1.y, 0, none⟩)) ∧ w.cell? ⟨fb, 2, none⟩ = some (.pointer (some ⟨f2.y, 0, none⟩)) := h.cells
theorem tri_names3 {f0 f1 f2 : Fl} (h : Tri B w0 w fb n [f0, f1, f2]) (f : Fl) (hf : f ∈ [f0, f1, f2]) :
    Calls Tryz.prog 10 #[.pointer (some ⟨f.y, 0, none⟩)] w fun e w' => ∃ q c, e = .returned (.slice q f.A.length c) ∧ TextsAt w' q (f.A.map (·.1)) ∧ Below w.heap.size w w' := by
  obtain ⟨i, hi, rfl⟩ := List.getElem_of_mem hf
  refine (fils_names h.1 i hi).mono ?_
  rintro e w' ⟨v, rfl, g1, g2⟩
  obtain ⟨q, c, rfl, g3⟩ := texts_of_row (l := [f0, f1, f2][i].A.map (·.1)) (by rw [List.length_map]; exact g1)
  exact ⟨q, c, by rw [List.length_map], g3, g2⟩
theorem tri_used3 {f0 f1 f2 : Fl} (h : Tri B w0 w fb n [f0, f1, f2]) (f : Fl) (hf : f ∈ [f0, f1, f2]) :
    Calls Tryz.prog 12 #[.pointer (some ⟨f.y, 0, none⟩)] w fun e w' => e = .returned (.int .i64 (used f.A : Int)) ∧ Below w.heap.size w w' := by
  obtain ⟨i, hi, rfl⟩ := List.getElem_of_mem hf
  exact fils_used h.1 i hi
theorem tri_get3 {f0 f1 f2 : Fl} (h : Tri B w0 w fb n [f0, f1, f2]) (f : Fl) (hf : f ∈ [f0, f1, f2]) (p : T × T) (hg : Fil.get f.A p.1 = some p.2) (hk : p.1.length ≤ maxLen) :
    Calls Tryz.prog 13 #[.pointer (some ⟨f.y, 0, none⟩), .string (bs p.1)] w fun e w' => e = .returned (.tuple #[.string (bs p.2), .bool true]) ∧ Below w.heap.size w w' := by
  obtain ⟨i, hi, rfl⟩ := List.getElem_of_mem hf
  refine (fils_get h.1 i hi p.1 hk).mono ?_
  rintro e w' ⟨rfl, g⟩
  rw [hg]
  exact ⟨rfl, g⟩
theorem yOf_set {f : Fl} {i : Nat} (hi : i < L.length) (hy : f.y = L[i].y) (j : Nat) : yOf (L.set i f) j = yOf L j := by
  unfold yOf
  by_cases e : i = j
  · subst e
    rw [List.getElem?_set_self hi, List.getElem?_eq_getElem hi]
    simp [hy]
  · rw [List.getElem?_set_ne e]
theorem tri_commit {a : Option Addr} {cap : Nat} {l : List Chg} (h : Tri B w0 w fb n L) (i : Nat) (hi : i < L.length) (hN : L[i].N < 1000000000) (hL : ChgsAt w a l) (hlen : l.length ≤ 100000) (hw : weigh l ≤ 900000) :
    Calls Tryz.prog 9 #[.pointer (some ⟨L[i].y, 0, none⟩), .slice a l.length cap] w fun e w' => e = .returned (.int .i64 (codeC n L[i].A l)) ∧ Tri B w0 w' fb n (L.set i ⟨L[i].b, L[i].y, L[i].N + 1, nextC n L[i].A l⟩) := by
  refine (fils_commit h.1 i hi hN hL hlen hw).mono ?_
  rintro e w' ⟨rfl, h1, h2⟩
  refine ⟨rfl, h1, h.2.1, ?_⟩
  rw [h2 fb rfl, h.2.2]
  unfold arrY
  simp only [yOf_set (L := L) (f := ⟨L[i].b, L[i].y, L[i].N + 1, nextC n L[i].A l⟩) hi rfl]
end
set_option maxRecDepth 100000 in
set_option maxHeartbeats 4000000 in
theorem filesOnce_core (w : World) (s : Int) (_hs : (Lit.int .i64 s).wf = true) (a : Option Addr) (cap : Nat) (l : List Chg) (c : Int) (hc : (Lit.int .u8 c).wf = true) (hL : ChgsAt w a l) (hcap : l.length ≤ cap) (hcm : cap ≤ maxLen) (hok : ∀ x ∈ l, x.name.length ≤ reachBytes ∧ x.data.length ≤ reachBytes) :
    Calls Tryz.prog 3 #[.int .i64 s, .slice a l.length cap, .int .u8 c] w fun e w' => e = .returned (.bool true) ∧ Below w.heap.size w w' := by
  have hc2 : 0 ≤ c ∧ c ≤ 255 := by simp [Lit.wf, IntKind.min, IntKind.max, IntKind.signed, IntKind.bits] at hc; omega
  clear hc
  have HA := Lib.hid (fun (V : World) => alive6_any V)
  by_cases h1 : s < 8
  · clear hL hok
    go_enter Tryz.func3, Tryz.ntmps3
    go_wp2_with fail
    refine (HA.out _).mono ?_
    rintro e w1 ⟨rfl, hb⟩
    have HB := Lib.hid hb
    clear hb
    go_wp2_with fail
    go_ret
    exact ⟨rfl, HB.out⟩
  by_cases h2 : 200 < s
  · clear hL hok
    go_enter Tryz.func3, Tryz.ntmps3
    go_wp2_with fail
    refine (HA.out _).mono ?_
    rintro e w1 ⟨rfl, hb⟩
    have HB := Lib.hid hb
    clear hb
    go_wp2_with fail
    go_ret
    exact ⟨rfl, HB.out⟩
  have HLG := Lib.hid (fun (V : World) (hb : Below w.heap.size w V) => long6_any (cap := cap) (hL.below hb) (Nat.le_trans hcap hcm) hok)
  by_cases hlong : longV l = true
  · have h1' : ¬ s < 8 := h1
    have h2' : decide (200 < s) = false := by simpa using h2
    rw [hlong] at HLG
    clear hL hok hlong h2
    go_enter Tryz.func3, Tryz.ntmps3
    go_wp2_with fail
    refine (HLG.out _ (Below.refl _ _)).mono ?_
    rintro e w1 ⟨rfl, hb⟩
    have HB := Lib.hid hb
    clear hb
    go_wp2_with fail
    refine (HA.out _).mono ?_
    rintro e w2 ⟨rfl, hb⟩
    have HB2 := Lib.hid (HB.out.trans (hb.mono HB.out.size))
    clear hb
    go_wp2_with fail
    go_ret
    exact ⟨rfl, HB2.out⟩
  obtain ⟨m, rfl⟩ : ∃ m : Nat, s = (m : Int) := ⟨s.toNat, by omega⟩
  have hlv : longV l = false := by simpa using hlong
  obtain ⟨hl60, hwl⟩ := long_weigh hlv
  have HL := Lib.hid hL
  rw [hlv] at HLG
  obtain ⟨cn, rfl⟩ : ∃ cn : Nat, c = (cn : Int) := ⟨c.toNat, by omega⟩
  have hcn : cn ≤ 255 := by omega
  have q1 : ¬ (m : Int) < 8 := by omega
  have q2 : decide ((200 : Int) < (m : Int)) = false := by simp; omega
  have q3 : decide ((m : Int) < 8) = false := by simp; omega
  have q4 : ¬ (200 : Int) < (m : Int) := by omega
  have hm1 : 8 ≤ m := by omega
  have hm2 : m ≤ 200 := by omega
  have HM := Lib.hid (And.intro hm1 hm2)
  clear hc2 hL hok hlong hlv h1 h2 _hs hm1 hm2
  go_enter Tryz.func3, Tryz.ntmps3
  go_wp2_with fail
  refine (HLG.out _ (Below.refl _ _)).mono ?_
  rintro e w1 ⟨rfl, hb1⟩
  have HB1 := Lib.hid hb1
  have HT0 := Lib.hid (show Tri w1.heap.size w1 (w1.alloc (.cells #[.pointer none, .pointer none, .pointer none] 26)) w1.heap.size m [] from
    ⟨Fils.none ((Below.refl _ _).alloc (Nat.le_refl _) _) (by rw [World.size_alloc]; omega) (fun k e => by subst e; rw [World.size_alloc]; omega), Nat.le_refl _, heap_alloc_new _ _⟩)
  clear hb1
  go_wp2_with fail
  go_loopw [8] (fun i wr => ∃ L : List Fl, L.length ≤ 3 ∧ i = .int .i64 L.length ∧ Tri w1.heap.size w1 wr w1.heap.size m L ∧ ∀ f ∈ L, f.N = 0 ∧ f.A = []) (fun i _ => 3 - (intOf i).toNat)
  case atStart => exact ⟨[], by simp, rfl, HT0.out, by simp⟩
  case round =>
    obtain ⟨L, hL3, rfl, hT, hall⟩ := hrel
    have HT := Lib.hid hT; have HALL := Lib.hid hall
    clear hT hall HT0
    by_cases hlt : L.length < 3
    · have hlti : (L.length : Int) < 3 := by omega
      have HLT := Lib.hid hlt
      clear hlt hL3
      go_wp2_with fail
      refine (new_fst m (by have := HM.out; omega) (by have := HM.out; omega)).mono ?_
      rintro e w2 ⟨b, fp, rfl, hd, hb, hn⟩
      have HD := Lib.hid hd; have HB := Lib.hid hb; have HN := Lib.hid hn
      clear hd hb hn
      go_wp2_with fail
      refine (fils_new HT.out.1 HB.out HD.out HN.out (by have := HM.out; omega) (by have := HM.out; omega)).mono ?_
      rintro e w3 ⟨y, rfl, hf, hk⟩
      have HF := Lib.hid (tri_of_new HT.out (hk _ rfl) hf HLT.out)
      have hfz : w3.frozen? ⟨w1.heap.size, L.length, none⟩ = false := by
        have h1 := (hk _ rfl).trans HT.out.2.2
        exact frozen_of_row _ _ _ _ _ h1
      obtain ⟨v0, hcell⟩ : ∃ v0, w3.cell? ⟨w1.heap.size, L.length, none⟩ = some v0 := by
        have h1 := (hk _ rfl).trans HT.out.2.2
        have hsz : L.length < (arrY L).size := HLT.out
        exact ⟨(arrY L)[L.length], by rw [cell_of_row w3 _ _ _ _ _ h1, Array.getElem?_eq_getElem hsz]⟩
      clear hf hk HD HB HN
      go_wp2_with fail
      go_roundw
      case rel => exact ⟨L ++ [⟨b, y, 0, []⟩], by have := HLT.out; simp; omega, by rw [List.length_append]; go_num, HF.out, fun f hf => by
        rcases List.mem_append.1 hf with h | h
        · exact HALL.out f h
        · simp at h; subst h; exact ⟨rfl, rfl⟩⟩
      case measure => simp [intOf]; omega
    · obtain ⟨f0, f1, f2, rfl⟩ : ∃ f0 f1 f2, L = [f0, f1, f2] := by
        clear HT HALL
        match L with
        | [a, b, c] => exact ⟨a, b, c, rfl⟩
        | [] => simp at hlt
        | [_] => simp at hlt
        | [_, _] => simp at hlt
        | _ :: _ :: _ :: _ :: _ => simp at hL3
      obtain ⟨b0, y0, N0, A0⟩ := f0
      obtain ⟨b1, y1, N1, A1⟩ := f1
      obtain ⟨b2, y2, N2, A2⟩ := f2
      have ha := HALL.out
      obtain ⟨rfl, rfl⟩ := ha _ (by simp : (⟨b0, y0, N0, A0⟩ : Fl) ∈ _)
      obtain ⟨rfl, rfl⟩ := ha _ (by simp : (⟨b1, y1, N1, A1⟩ : Fl) ∈ _)
      obtain ⟨rfl, rfl⟩ := ha _ (by simp : (⟨b2, y2, N2, A2⟩ : Fl) ∈ _)
      clear ha HALL hL3 hlt
      have hmod : (cn : Int).tmod ((l.length : Int) + 1) = ((cn % (l.length + 1) : Nat) : Int) := by
        rw [Int.tmod_eq_emod_of_nonneg (by omega), Int.natCast_emod]; rfl
      have hne : (((l.length : Int) + 1) == 0) = false := by simp; omega
      have hK : cn % (l.length + 1) ≤ l.length := by have := Nat.mod_lt cn (show 0 < l.length + 1 by omega); omega
      generalize cn % (l.length + 1) = K at *
      obtain ⟨c0, c1, c2⟩ := HT.out.cells3
      have HCH := Lib.hid (fun (V : World) (hb : Below w1.heap.size w1 V) => HL.out.below (HB1.out.trans (hb.mono HB1.out.size)))
      have HOD := Lib.hid (fun (h : OkTo m l l.length) => h.done K hK)
      obtain ⟨q', cq, hsf, hqf⟩ := chgs_from a l.length cap K hK
      have hst := fun V => chgs_to a l.length cap K hK hcap V
      have HQF := Lib.hid (fun W (h : ChgsAt W a l) => hqf W l rfl hcap h)
      have hdl : (l.drop K).length = l.length - K := List.length_drop
      have HDL := Lib.hid hdl
      have htl : (l.take K).length = K := by rw [List.length_take]; omega
      have HTL := Lib.hid htl
      have HWP := Lib.hid (weigh_part (l := l) K)
      have HKL := Lib.hid hK
      clear hqf hdl htl
      have HC0 := Lib.hid (show Calls Tryz.prog 9 #[.pointer (some ⟨y0, 0, none⟩), .slice a l.length cap] wr fun e w' => e = .returned (.int .i64 (codeC m [] l)) ∧ Tri w1.heap.size w1 w' w1.heap.size m [⟨b0, y0, 1, nextC m [] l⟩, ⟨b1, y1, 0, []⟩, ⟨b2, y2, 0, []⟩] from
        tri_commit HT.out 0 (by simp) (by show 0 < 1000000000; omega) (HCH.out _ HT.out.1.1) (by omega) (by omega))
      go_wp2_with fail
      obtain ⟨ca, hca⟩ : ∃ x, codeC m [] l = x := ⟨_, rfl⟩
      obtain ⟨M0, hM0⟩ : ∃ x, nextC m [] l = x := ⟨_, rfl⟩
      rw [hca, hM0] at HC0
      have HCA := Lib.hid hca; have HM0 := Lib.hid hM0
      clear hca hM0
      refine HC0.out.mono ?_
      rintro e w3 ⟨rfl, h3⟩
      have H3 := Lib.hid h3
      obtain ⟨d0, d1, d2⟩ := h3.cells3
      clear h3 HT HC0 c0 c1 c2
      obtain ⟨cb, hcb⟩ : ∃ x, codeC m [] (l.take K) = x := ⟨_, rfl⟩
      obtain ⟨M1, hM1⟩ : ∃ x, nextC m [] (l.take K) = x := ⟨_, rfl⟩
      obtain ⟨cc, hcc⟩ : ∃ x, codeC m M1 (l.drop K) = x := ⟨_, rfl⟩
      obtain ⟨M2, hM2⟩ : ∃ x, nextC m M1 (l.drop K) = x := ⟨_, rfl⟩
      have HC1 := Lib.hid (fun (V : World) (h : Tri w1.heap.size w1 V w1.heap.size m [⟨b0, y0, 1, M0⟩, ⟨b1, y1, 0, []⟩, ⟨b2, y2, 0, []⟩]) => (show Calls Tryz.prog 9 #[.pointer (some ⟨y1, 0, none⟩), .slice a K cap] V fun e w' => e = .returned (.int .i64 cb) ∧ Tri w1.heap.size w1 w' w1.heap.size m [⟨b0, y0, 1, M0⟩, ⟨b1, y1, 1, M1⟩, ⟨b2, y2, 0, []⟩] from by
        have h := tri_commit (cap := cap) h 1 (by simp) (by show 0 < 1000000000; omega) (chgs_take (HCH.out _ h.1.1) K) (by rw [HTL.out]; omega) (by have := HWP.out.1; omega)
        rw [HTL.out] at h
        subst hcb hM1
        exact h))
      have HC2 := Lib.hid (fun (V : World) (h : Tri w1.heap.size w1 V w1.heap.size m [⟨b0, y0, 1, M0⟩, ⟨b1, y1, 1, M1⟩, ⟨b2, y2, 0, []⟩]) => (show Calls Tryz.prog 9 #[.pointer (some ⟨y1, 0, none⟩), .slice q' (l.length - K) cq] V fun e w' => e = .returned (.int .i64 cc) ∧ Tri w1.heap.size w1 w' w1.heap.size m [⟨b0, y0, 1, M0⟩, ⟨b1, y1, 2, M2⟩, ⟨b2, y2, 0, []⟩] from by
        have h := tri_commit (cap := cq) h 1 (by simp) (by show 1 < 1000000000; omega) (HQF.out _ (HCH.out _ h.1.1)) (by rw [HDL.out]; omega) (by have := HWP.out.2; omega)
        rw [HDL.out] at h
        subst hcc hM2
        exact h))
      have HPQ := Lib.hid (And.intro hcb (And.intro hM1 (And.intro hcc hM2)))
      clear hcb hM1 hcc hM2 HQF
      have HDR := Lib.hid (H3.out.step ((Below.refl _ _).drew))
      go_wp2_with fail
      go_region_held3 (fun V => V.cell? ⟨w1.heap.size, 1, none⟩ = some (.pointer (some ⟨y1, 0, none⟩)))
        (first | exact HDR.out.cells3.2.1 | exact H3.out.cells3.2.1 | exact H4.out.cells3.2.1 | exact H5.out.cells3.2.1)
        (first
          | (go_at_call 9; refine (HC2.out _ H4.out).mono ?_; rintro e w5 ⟨rfl, h5⟩; have H5 := Lib.hid h5; clear h5)
          | (go_at_call 9; refine (HC1.out _ HDR.out).mono ?_; rintro e w4 ⟨rfl, h4⟩; have H4 := Lib.hid h4; clear h4))
      clear HDR H3 H4 HC1 HC2 d0 d1 d2 hsf hst hmod hne
      go_wp2_with fail
      go_loopw [17] (fun i wr => ∃ (j : Nat), j ≤ l.length ∧ i = .int .i64 j ∧ OkTo m l j ∧ Tri w1.heap.size w1 wr w1.heap.size m [⟨b0, y0, 1, M0⟩, ⟨b1, y1, 2, M2⟩, ⟨b2, y2, j, made [] (l.take j)⟩]) (fun i _ => l.length - (intOf i).toNat)
      case atStart => exact ⟨0, Nat.zero_le _, rfl, OkTo.start HM.out.1 l, H5.out⟩
      case round =>
        clear H5
        obtain ⟨j, hj, rfl, hok, hT⟩ := hrel
        have HOK := Lib.hid hok; have HT := Lib.hid hT
        clear hok hT
        by_cases hlt : j < l.length
        · obtain ⟨q, hix, hq, -⟩ := HL.out.index cap j hlt
          have hwj : weigh [l[j]] ≤ weigh l := by
            have := weigh_mem (List.getElem_mem hlt)
            unfold weigh at this ⊢
            simpa using this
          have HKP := Lib.hid (fun (V : World) (h : Tri w1.heap.size w1 V w1.heap.size m [⟨b0, y0, 1, M0⟩, ⟨b1, y1, 2, M2⟩, ⟨b2, y2, j, made [] (l.take j)⟩]) => And.intro h.cells3.2.2 (hq.below (HB1.out.trans (h.1.1.mono HB1.out.size))).cells)
          obtain ⟨cd, hcd⟩ : ∃ x, codeC m (made [] (l.take j)) [l[j]] = x := ⟨_, rfl⟩
          obtain ⟨M3, hM3⟩ : ∃ x, nextC m (made [] (l.take j)) [l[j]] = x := ⟨_, rfl⟩
          have HST := Lib.hid (show cd = 0 → OkTo m l (j + 1) ∧ M3 = made [] (l.take (j + 1)) from fun h => by subst hcd hM3; exact HOK.out.step hlt h)
          have HCC := Lib.hid (fun (V : World) (g : Nat) (h : Tri w1.heap.size w1 V w1.heap.size m [⟨b0, y0, 1, M0⟩, ⟨b1, y1, 2, M2⟩, ⟨b2, y2, j, made [] (l.take j)⟩]) (hc : ChgsAt V (some ⟨g, 0, none⟩) [l[j]]) => (show Calls Tryz.prog 9 #[.pointer (some ⟨y2, 0, none⟩), .slice (some ⟨g, 0, none⟩) 1 1] V fun e w' => e = .returned (.int .i64 cd) ∧ Tri w1.heap.size w1 w' w1.heap.size m [⟨b0, y0, 1, M0⟩, ⟨b1, y1, 2, M2⟩, ⟨b2, y2, j + 1, M3⟩] from by
            have h := tri_commit (cap := 1) h 2 (by simp) (by show j < 1000000000; omega) hc (by show 1 ≤ 100000; omega) (by omega)
            subst hcd hM3
            exact h))
          clear hcd hM3 hwj HOK
          have HJ := Lib.hid hlt
          generalize l[j] = x at *
          have HDR := Lib.hid (HT.out.step ((Below.refl _ _).drew))
          have HAL := Lib.hid ((HT.out.step (below_alloc wr (.cells #[.string (bs x.name), .string (bs x.data), .bool x.gone] 35))).step ((Below.refl _ _).drew))
          have HCA2 := Lib.hid (show ChgsAt (wr.alloc (.cells #[.string (bs x.name), .string (bs x.data), .bool x.gone] 35)).drew (some ⟨wr.heap.size, 0, none⟩) [x] from chgs_one (heap_alloc_new _ _))
          have HCZ := Lib.hid (HCC.out _ _ HAL.out HCA2.out)
          have HKE := Lib.hid (fun (V : World) (h : Tri w1.heap.size w1 V w1.heap.size m [⟨b0, y0, 1, M0⟩, ⟨b1, y1, 2, M2⟩, ⟨b2, y2, j + 1, M3⟩]) => And.intro h.cells3.2.2 (hq.below (HB1.out.trans (h.1.1.mono HB1.out.size))).cells)
          clear hq hlt HCC HT
          go_wp2_with fail
          go_region_held3 (fun V => V.cell? ⟨w1.heap.size, 2, none⟩ = some (.pointer (some ⟨y2, 0, none⟩)) ∧ V.cell? q = some (.string (bs x.name)) ∧ V.cell? ⟨q.block, q.off + 1, none⟩ = some (.string (bs x.data)) ∧ V.cell? ⟨q.block, q.off + 2, none⟩ = some (.bool x.gone))
            (first | exact HKP.out _ HDR.out | exact HKP.out _ HAL.out | exact HKE.out _ H6.out)
            (first
              | (go_at_call 9; refine HCZ.out.mono ?_; rintro e w6 ⟨rfl, h6⟩; have H6 := Lib.hid h6; clear h6))
          by_cases hc0 : cd = 0
          · subst hc0
            obtain ⟨hok, rfl⟩ := HST.out rfl
            have HOK := Lib.hid hok
            clear hok HST
            go_wp2_with fail
            go_roundw
            case rel => exact ⟨j + 1, HJ.out, by go_num, HOK.out, H6.out⟩
            case measure => have := HJ.out; simp [intOf]; omega
          · have hc1 : (cd != 0) = true := by simp [hc0]
            clear hc0 HST
            go_wp2_with fail
            refine (HA.out _).mono ?_
            rintro e w7 ⟨rfl, hb⟩
            have H7 := Lib.hid (H6.out.step hb)
            clear hb
            go_wp2_with fail
            go_ret
            exact ⟨rfl, HB1.out.trans (H7.out.1.1.mono HB1.out.size)⟩
        · obtain rfl : j = l.length := by omega
          have hdone := HOD.out HOK.out
          obtain ⟨p1, p2, p3, p4⟩ := HPQ.out
          have g0 : ca = 0 := HCA.out.symm.trans hdone.1
          have g1 : M0 = made [] l := HM0.out.symm.trans hdone.2.1
          have g2 : cb = 0 := p1.symm.trans hdone.2.2.1
          have g3 : cc = 0 := by rw [← p3, ← p2]; exact hdone.2.2.2.1
          have g4 : M2 = made [] l := by rw [← p4, ← p2]; exact hdone.2.2.2.2
          have HT2 := Lib.hid (show Tri w1.heap.size w1 wr w1.heap.size m [⟨b0, y0, 1, made [] l⟩, ⟨b1, y1, 2, made [] l⟩, ⟨b2, y2, l.length, made [] l⟩] from by
            have h := HT.out
            rw [List.take_length, g1, g4] at h
            exact h)
          subst g0 g2 g3
          have HMA := Lib.hid (show ∀ p ∈ made [] l, Fil.get (made [] l) p.1 = some p.2 ∧ ∃ (i : Nat) (c : Chg), lastC l p.1 l.length = (i : Int) ∧ l[i]? = some c ∧ c.gone = false ∧ c.data = p.2 from fun p hp => lastC_made hp)
          clear g1 g4 p1 p2 p3 p4 hdone HOD HPQ HCA HM0 HOK HT hlt hj HDL HTL HWP HKL
          generalize made [] l = M at *
          have HLEN := Lib.hid (show (M.length ≤ maxLen ∧ ∀ p ∈ M, p.1.length ≤ maxLen) ∧ M.length ≤ 600000 from by
            obtain ⟨bl, hf⟩ := HT2.out.1.at_ 0 (by simp)
            obtain ⟨-, u2, u3, u4, u5⟩ := hf.up
            have u6 := roomN_le u5
            have u7 := used_len M
            have u3' : used M ≤ roomN m := u3
            refine ⟨⟨by unfold maxLen; omega, fun p hp => ?_⟩, by omega⟩
            have := u2 p hp
            unfold mayB at this
            simp at this
            unfold maxLen
            omega)
          have HSM := Lib.hid (fun (V : World) (q q2 : Option Addr) (c c2 : Nat) (h1 : TextsAt V q (M.map (·.1))) (h2 : TextsAt V q2 (M.map (·.1))) => (show Calls Tryz.prog 11 #[.slice q M.length c, .slice q2 M.length c2] V fun e w' => e = .returned (.bool true) ∧ Below V.heap.size V w' from by
            have h := rsame_any _ _ q q2 c c2 V h1 h2 (by rw [List.length_map]; exact HLEN.out.1.1) (by rw [List.length_map]; exact HLEN.out.1.1)
            rw [List.length_map, decide_eq_true rfl] at h
            exact h))
          have hMB := HLEN.out.2
          obtain ⟨c0, c1, c2⟩ := HT2.out.cells3
          go_wp2_with fail
          refine (tri_names3 HT2.out ⟨b0, y0, 1, M⟩ (by simp)).mono ?_
          rintro e w8 ⟨qn, cnn, rfl, ht, hb⟩
          have HTX := Lib.hid ht
          have HT := Lib.hid (HT2.out.step hb)
          clear ht hb HT2 c0 c1 c2
          have HKP := Lib.hid (fun (V : World) (hb : Below w8.heap.size w8 V) => (HT.out.step hb).cells3)
          have HBD := Lib.hid (show Below w8.heap.size w8 w8.drew from (Below.refl _ _).drew)
          have HN1 := Lib.hid (fun (V : World) (hb : Below w8.heap.size w8 V) => (show Calls Tryz.prog 10 #[.pointer (some ⟨y1, 0, none⟩)] V fun e w' => ∃ q c, e = .returned (.slice q M.length c) ∧ TextsAt w' q (M.map (·.1)) ∧ Below V.heap.size V w' from tri_names3 (HT.out.step hb) ⟨b1, y1, 2, M⟩ (by simp)))
          have HN2 := Lib.hid (fun (V : World) (hb : Below w8.heap.size w8 V) => (show Calls Tryz.prog 10 #[.pointer (some ⟨y2, 0, none⟩)] V fun e w' => ∃ q c, e = .returned (.slice q M.length c) ∧ TextsAt w' q (M.map (·.1)) ∧ Below V.heap.size V w' from tri_names3 (HT.out.step hb) ⟨b2, y2, l.length, M⟩ (by simp)))
          have HU0 := Lib.hid (fun (V : World) (hb : Below w8.heap.size w8 V) => (show Calls Tryz.prog 12 #[.pointer (some ⟨y0, 0, none⟩)] V fun e w' => e = .returned (.int .i64 (used M : Int)) ∧ Below V.heap.size V w' from tri_used3 (HT.out.step hb) ⟨b0, y0, 1, M⟩ (by simp)))
          have HU1 := Lib.hid (fun (V : World) (hb : Below w8.heap.size w8 V) => (show Calls Tryz.prog 12 #[.pointer (some ⟨y1, 0, none⟩)] V fun e w' => e = .returned (.int .i64 (used M : Int)) ∧ Below V.heap.size V w' from tri_used3 (HT.out.step hb) ⟨b1, y1, 2, M⟩ (by simp)))
          have HU2 := Lib.hid (fun (V : World) (hb : Below w8.heap.size w8 V) => (show Calls Tryz.prog 12 #[.pointer (some ⟨y2, 0, none⟩)] V fun e w' => e = .returned (.int .i64 (used M : Int)) ∧ Below V.heap.size V w' from tri_used3 (HT.out.step hb) ⟨b2, y2, l.length, M⟩ (by simp)))
          obtain ⟨U, hU⟩ : ∃ u : Int, (used M : Int) = u := ⟨_, rfl⟩
          rw [hU] at HU0 HU1 HU2
          clear hU
          go_wp2_with fail
          go_region_held3 (fun V => V.cell? ⟨w1.heap.size, 0, none⟩ = some (.pointer (some ⟨y0, 0, none⟩)) ∧ V.cell? ⟨w1.heap.size, 1, none⟩ = some (.pointer (some ⟨y1, 0, none⟩)) ∧ V.cell? ⟨w1.heap.size, 2, none⟩ = some (.pointer (some ⟨y2, 0, none⟩)))
            (first | exact HKP.out _ HBH.out | exact HKP.out _ HBG.out | exact HKP.out _ HBF.out | exact HKP.out _ HBE.out | exact HKP.out _ HBDD.out | exact HKP.out _ HBC.out | exact HKP.out _ HBB.out | exact HKP.out _ HBA.out | exact HKP.out _ HBD.out)
            (first
              | (go_at_call 12; refine (HU2.out _ HBG.out).mono ?_; rintro e wH ⟨rfl, hb⟩; have HBH := Lib.hid (HBG.out.trans (hb.mono HBG.out.size)); clear hb)
              | (go_at_call 12; refine (HU0.out _ HBF.out).mono ?_; rintro e wG ⟨rfl, hb⟩; have HBG := Lib.hid (HBF.out.trans (hb.mono HBF.out.size)); clear hb)
              | (go_at_call 12; refine (HU1.out _ HBE.out).mono ?_; rintro e wF ⟨rfl, hb⟩; have HBF := Lib.hid (HBE.out.trans (hb.mono HBE.out.size)); clear hb)
              | (go_at_call 12; refine (HU0.out _ HBDD.out).mono ?_; rintro e wE ⟨rfl, hb⟩; have HBE := Lib.hid (HBDD.out.trans (hb.mono HBDD.out.size)); clear hb)
              | (go_at_call 11; refine (HSM.out _ _ _ _ _ (HTX.out.below HBC.out) HT2.out).mono ?_; rintro e wD ⟨rfl, hb⟩; have HBDD := Lib.hid (HBC.out.trans (hb.mono HBC.out.size)); clear hb)
              | (go_at_call 10; refine (HN2.out _ HBB.out).mono ?_; rintro e wC ⟨q2, qc2, rfl, ht, hb⟩; have HT2 := Lib.hid ht; have HBC := Lib.hid (HBB.out.trans (hb.mono HBB.out.size)); clear hb ht)
              | (go_at_call 11; refine (HSM.out _ _ _ _ _ (HTX.out.below HBA.out) HT1.out).mono ?_; rintro e wB ⟨rfl, hb⟩; have HBB := Lib.hid (HBA.out.trans (hb.mono HBA.out.size)); clear hb)
              | (go_at_call 10; refine (HN1.out _ HBD.out).mono ?_; rintro e wA ⟨q1, qc1, rfl, ht, hb⟩; have HT1 := Lib.hid ht; have HBA := Lib.hid (HBD.out.trans (hb.mono HBD.out.size)); clear hb ht))
          clear HBG HBF HBE HBDD HBC HBB HBA HBD HT1 HT2 HU0 HU1 HU2 HN1 HN2 HSM
          go_wp2_with fail
          go_loopw [19] (fun i wr => ∃ (i0 : Nat), i0 ≤ M.length ∧ i = .int .i64 i0 ∧ Below w8.heap.size w8 wr) (fun i _ => M.length - (intOf i).toNat)
          case atStart => exact ⟨0, Nat.zero_le _, rfl, HBH.out⟩
          case round =>
            clear HBH
            obtain ⟨i0, hi0, rfl, hb⟩ := hrel
            have HB := Lib.hid hb
            clear hb
            by_cases hlt : i0 < M.length
            · obtain ⟨hgp, li, lc, hlc, hli, hgo, hda⟩ := HMA.out _ (List.getElem_mem hlt)
              have hkl := HLEN.out.1.2 _ (List.getElem_mem hlt)
              obtain ⟨qx, hix, hqx⟩ := HTX.out.index cnn i0 (by rw [List.length_map]; exact hlt)
              rw [List.length_map] at hix
              rw [List.getElem_map] at hqx
              have HG := Lib.hid (And.intro hgp (And.intro hlc (And.intro hli (And.intro hgo hda))))
              have HKL := Lib.hid hkl
              have HQX := Lib.hid (fun (V : World) (hb : Below w8.heap.size w8 V) => (hb.cell (block_lt_of_cell hqx)).trans hqx)
              have HI := Lib.hid hlt
              clear hgp hlc hli hgo hda hkl hqx
              generalize M[i0] = x at *
              clear hlt
              obtain ⟨nm, da⟩ := x
              dsimp only at HQX HG HKL
              go_wp2_with fail
              go_loopw [20, 21] (fun la j wx => ∃ (j0 : Nat), j0 ≤ l.length ∧ la = .int .i64 (lastC l nm j0) ∧ j = .int .i64 j0 ∧ Below w8.heap.size w8 wx) (fun _ j _ => l.length - (intOf j).toNat)
              case atStart => exact ⟨0, Nat.zero_le _, rfl, rfl, HB.out⟩
              case round =>
                clear HB
                obtain ⟨j0, hj0, rfl, rfl, hb⟩ := hrel
                have HB := Lib.hid hb
                clear hb
                by_cases hjl : j0 < l.length
                · obtain ⟨q, hiy, hq, -⟩ := (HCH.out _ (HT.out.1.1.trans (HB.out.mono HT.out.1.1.size))).index cap j0 hjl
                  obtain ⟨e0, e1, e2⟩ := hq.cells
                  have hlc2 : lastC l nm (j0 + 1) = if l[j0].name = nm then (j0 : Int) else lastC l nm j0 := by
                    rw [lastC, List.getD_eq_getElem?_getD, List.getElem?_eq_getElem hjl]; rfl
                  have HLC := Lib.hid hlc2
                  have HJ := Lib.hid hjl
                  have hqx := HQX.out _ HB.out
                  clear hq hlc2
                  generalize l[j0] = y at *
                  clear hjl
                  generalize lastC l nm j0 = la at *
                  go_wp2_with fail
                  by_cases hyn : y.name = nm
                  · have hbe : (y.name == nm) = true := by simp [hyn]
                    have HR := Lib.hid (show lastC l nm (j0 + 1) = (j0 : Int) from by rw [HLC.out, if_pos hyn])
                    clear hyn HLC
                    go_quiet (fail)
                    go_wp2_with fail
                    go_roundw
                    case rel => exact ⟨j0 + 1, HJ.out, by rw [HR.out], by go_num, HB.out.trans ((below_drawn _ _).mono HB.out.size)⟩
                    case measure => have := HJ.out; simp [intOf]; omega
                  · have hbe : (y.name == nm) = false := by simp [hyn]
                    have HR := Lib.hid (show lastC l nm (j0 + 1) = la from by rw [HLC.out, if_neg hyn])
                    clear hyn HLC
                    go_quiet (fail)
                    go_wp2_with fail
                    go_roundw
                    case rel => exact ⟨j0 + 1, HJ.out, by rw [HR.out], by go_num, HB.out.trans ((below_drawn _ _).mono HB.out.size)⟩
                    case measure => have := HJ.out; simp [intOf]; omega
                · obtain rfl : j0 = l.length := by omega
                  obtain ⟨hgp, hlc, hli, hgo, hda⟩ := HG.out
                  rw [hlc]
                  have HG0 := Lib.hid (fun (V : World) (hb : Below w8.heap.size w8 V) => (show Calls Tryz.prog 13 #[.pointer (some ⟨y0, 0, none⟩), .string (bs nm)] V fun e w' => e = .returned (.tuple #[.string (bs da), .bool true]) ∧ Below V.heap.size V w' from tri_get3 (HT.out.step hb) ⟨b0, y0, 1, M⟩ (by simp) (nm, da) hgp HKL.out))
                  have HG1 := Lib.hid (fun (V : World) (hb : Below w8.heap.size w8 V) => (show Calls Tryz.prog 13 #[.pointer (some ⟨y1, 0, none⟩), .string (bs nm)] V fun e w' => e = .returned (.tuple #[.string (bs da), .bool true]) ∧ Below V.heap.size V w' from tri_get3 (HT.out.step hb) ⟨b1, y1, 2, M⟩ (by simp) (nm, da) hgp HKL.out))
                  have HG2 := Lib.hid (fun (V : World) (hb : Below w8.heap.size w8 V) => (show Calls Tryz.prog 13 #[.pointer (some ⟨y2, 0, none⟩), .string (bs nm)] V fun e w' => e = .returned (.tuple #[.string (bs da), .bool true]) ∧ Below V.heap.size V w' from tri_get3 (HT.out.step hb) ⟨b2, y2, l.length, M⟩ (by simp) (nm, da) hgp HKL.out))
                  obtain ⟨q, hiz, hq, -⟩ := HL.out.index cap li (List.getElem?_eq_some_iff.1 hli).1
                  have hll : l[li]'(List.getElem?_eq_some_iff.1 hli).1 = lc := (List.getElem?_eq_some_iff.1 hli).2
                  rw [hll] at hq
                  have HQC := Lib.hid (fun (V : World) (hb : Below w8.heap.size w8 V) => (hq.below ((HB1.out.trans (HT.out.1.1.mono HB1.out.size)).trans (hb.mono (Nat.le_trans HB1.out.size HT.out.1.1.size)))).cells)
                  rw [hgo, hda] at HQC
                  have hll2 : (li : Int) < (l.length : Int) := by have := (List.getElem?_eq_some_iff.1 hli).1; omega
                  clear hgp hlc hli hgo hda hq hll HG HMA HCH HL HLEN
                  have HBD0 := Lib.hid (HB.out.trans ((Below.refl _ _).drew.mono HB.out.size))
                  go_wp2_with fail
                  go_region_held3 (fun V => V.cell? ⟨w1.heap.size, 0, none⟩ = some (.pointer (some ⟨y0, 0, none⟩)) ∧ V.cell? qx = some (.string (bs nm)))
                    (first | exact ⟨(HKP.out _ HBG0.out).1, HQX.out _ HBG0.out⟩ | exact ⟨(HKP.out _ HBD0.out).1, HQX.out _ HBD0.out⟩)
                    (first
                      | (go_at_call 13; refine (HG0.out _ HBD0.out).mono ?_; rintro e wG0 ⟨rfl, hb⟩; have HBG0 := Lib.hid (HBD0.out.trans (hb.mono HBD0.out.size)); clear hb))
                  go_wp2_with fail
                  have HBD1 := Lib.hid (HBG0.out.trans ((Below.refl _ _).drew.mono HBG0.out.size))
                  go_wp2_with fail
                  go_region_held3 (fun V => V.cell? ⟨w1.heap.size, 1, none⟩ = some (.pointer (some ⟨y1, 0, none⟩)) ∧ V.cell? qx = some (.string (bs nm)))
                    (first | exact ⟨(HKP.out _ HBG1.out).2.1, HQX.out _ HBG1.out⟩ | exact ⟨(HKP.out _ HBD1.out).2.1, HQX.out _ HBD1.out⟩)
                    (first
                      | (go_at_call 13; refine (HG1.out _ HBD1.out).mono ?_; rintro e wG1 ⟨rfl, hb⟩; have HBG1 := Lib.hid (HBD1.out.trans (hb.mono HBD1.out.size)); clear hb))
                  go_wp2_with fail
                  have HBD2 := Lib.hid (HBG1.out.trans ((Below.refl _ _).drew.mono HBG1.out.size))
                  go_wp2_with fail
                  go_region_held3 (fun V => V.cell? ⟨w1.heap.size, 2, none⟩ = some (.pointer (some ⟨y2, 0, none⟩)) ∧ V.cell? qx = some (.string (bs nm)))
                    (first | exact ⟨(HKP.out _ HBG2.out).2.2, HQX.out _ HBG2.out⟩ | exact ⟨(HKP.out _ HBD2.out).2.2, HQX.out _ HBD2.out⟩)
                    (first
                      | (go_at_call 13; refine (HG2.out _ HBD2.out).mono ?_; rintro e wG2 ⟨rfl, hb⟩; have HBG2 := Lib.hid (HBD2.out.trans (hb.mono HBD2.out.size)); clear hb))
                  obtain ⟨e0, e1, e2⟩ := HQC.out _ HBG2.out
                  have hl0 : ((li : Int) < 0) = False := by simp
                  go_wp2_with fail
                  go_roundw
                  case rel => exact ⟨i0 + 1, HI.out, by go_num, HBG2.out⟩
                  case measure => have := HI.out; simp [intOf]; omega
            · go_wp2_with fail
              refine (HA.out _).mono ?_
              rintro e w9 ⟨rfl, hb⟩
              go_wp2_with fail
              go_ret
              exact ⟨rfl, (HB1.out.trans (HT.out.1.1.mono HB1.out.size)).trans ((HB.out.trans (hb.mono HB.out.size)).mono (Nat.le_trans HB1.out.size HT.out.1.1.size))⟩
set_option maxRecDepth 100000 in
theorem filesOnce_any {base : Nat} {H : Type} {enc : TypeId × Value → H} (w : World) (s : Int) (hs : (Lit.int .i64 s).wf = true) (v : Value) (d : DataW H) (p : List MemPlace)
    (ho : Value.okWide Tryz.prog w .any base 22 v) (h : DataW.Trod enc Tryz.prog w 0 (fun _ => true) true 22 v d p) (hz : ∀ n ∈ DataW.weights Tryz.prog 22 d, (decide (n ≤ reachBytes)) = true) (c : Int) (hc : (Lit.int .u8 c).wf = true) :
    Calls Tryz.prog 3 #[.int .i64 s, v, .int .u8 c] w fun e w' => e = .returned (.bool true) ∧ Below w.heap.size w w' := by
  obtain ⟨a, cap, l, rfl, h1, h2, h3, h4⟩ := chgs_of_trod ho h hz
  exact filesOnce_core w s hs a cap l c hc h1 h2 h3 h4
end Go.Proofs.YtcljpnkknehlmaaGreat
