/- maslinlaw05.Same, walked; a disk and a log of the statement's own. -/
import Derived.Test.YthbdflmckfgleaaRefWalMore
import Derived.Test.YthbdflmckfgleaaSame
namespace Go.Proofs.Ythbdflmckfgleaa
open Go.RowKit Go.Maps
open Wal

/-- A log that a statement compares: not too long. -/
structure Modest (L : WLog) : Prop where
  groups : L.groups.length ≤ 1000000
  rows : ∀ l ∈ L.groups, l.length ≤ 1000000000
theorem rsame5_same (L : List (List (List UInt8))) (v v' : Value) (w : World) (hl : GroupsAt w v L) (hm : GroupsAt w v' L) (h1 : L.length ≤ 1000000000) (ha : ∀ l ∈ L, l.length ≤ maxLen) :
    Calls Try.prog 52 #[v, v'] w fun e w' => e = .returned (.bool true) ∧ Below w.heap.size w w' :=
  (rsame5_any L L v v' w hl hm h1 h1 ha ha).mono fun e w' h => ⟨by rw [h.1]; simp, h.2⟩
set_option maxRecDepth 100000 in
set_option maxHeartbeats 2000000 in
theorem same5_any {w : World} {x b y r : Nat} {gv gv2 : Value} {L : WLog} (h : WalIn w x b gv L) (h2 : RWalIn w y r gv2 L) (hm : Modest L) :
    Calls Try.prog 46 #[.pointer (some ⟨x, 0, none⟩), .pointer (some ⟨y, 0, none⟩)] w fun e w' => e = .returned (.bool true) ∧ Below w.heap.size w w' := by
  obtain ⟨_, _, _, d3, d4, _, d6, _⟩ := h2.cells
  have H := Lib.hid h; have H2 := Lib.hid h2; have HM := Lib.hid hm
  have hrl : ∀ l ∈ L.groups, l.length ≤ maxLen := fun l hl => by have := hm.rows l hl; unfold maxLen; omega
  have HRL := Lib.hid hrl
  have hyl := h2.lt y (.inl rfl)
  clear h h2 hm hrl
  have b1 : Below w.heap.size w w.drew := (Below.refl _ _).drew
  have B1 := Lib.hid b1
  have keep := fun (V : World) (hb : Below w.heap.size w V) => (⟨(hb.cell (p := ⟨y, 3, none⟩) hyl).trans d3, (hb.cell (p := ⟨y, 4, none⟩) hyl).trans d4, (hb.cell (p := ⟨y, 6, none⟩) hyl).trans d6⟩ : V.cell? ⟨y, 3, none⟩ = some (.int .u64 (L.gen : Int)) ∧ V.cell? ⟨y, 4, none⟩ = some gv2 ∧ V.cell? ⟨y, 6, none⟩ = some (.int .i64 L.fault))
  have KP := Lib.hid keep
  clear b1 keep
  go_enter Try.func46, Try.ntmps46
  go_wp2_with fail
  go_region_held3 (fun V => V.cell? ⟨y, 3, none⟩ = some (.int .u64 (L.gen : Int)) ∧ V.cell? ⟨y, 4, none⟩ = some gv2 ∧ V.cell? ⟨y, 6, none⟩ = some (.int .i64 L.fault))
    (first | exact KP.out _ B5.out | exact KP.out _ B4.out | exact KP.out _ B3.out | exact KP.out _ B2.out | exact KP.out _ B1.out)
    (first
      | (go_at_call 51; refine (walGroups_any (H.out.below B1.out) HM.out.groups HM.out.rows).mono ?_; rintro e wa ⟨va, rfl, ga, hba, _⟩; have B2 := Lib.hid (B1.out.trans (hba.mono (Nat.le_refl _))); have GA := Lib.hid ga; clear hba ga)
      | (go_at_call 52; refine (rsame5_same L.groups va gv2 wa GA.out (H2.out.below B2.out).groups (by have := HM.out.groups; omega) HRL.out).mono ?_; rintro e wb ⟨rfl, hbb⟩; have B3 := Lib.hid (B2.out.trans (hbb.mono B2.out.size)); clear hbb)
      | (go_at_call 53; refine (walGen_any (H.out.below B3.out)).mono ?_; rintro e wc ⟨rfl, rfl⟩)
      | (go_at_call 54; refine (walRoom_any (H.out.below B3.out)).mono ?_; rintro e wd ⟨rfl, hbd⟩; have B4 := Lib.hid (B3.out.trans (hbd.mono B3.out.size)); clear hbd)
      | (go_at_call 83; refine (rwalRoom_any (H2.out.below B4.out)).mono ?_; rintro e we ⟨rfl, hbe⟩; have B5 := Lib.hid (B4.out.trans (hbe.mono B4.out.size)); clear hbe)
      | (go_at_call 48; refine (walFault_any (H.out.below B5.out)).mono ?_; rintro e wf ⟨rfl, rfl⟩))
  go_wp2_with fail
  go_ret
  exact ⟨rfl, B5.out⟩
end Go.Proofs.Ythbdflmckfgleaa
