/- slices.IndexFunc, slices.ContainsFunc over rows of numbers, by what the function value tells; walked. -/
import Derived.Test.YtgmhglcdifhimaaDoorTaskReads
namespace Go.Proofs.YtgmhglcdifhimaaDoor
open Go.RowKit Go.Maps
open Tsk

/-- A function value that tells of numbers, wherever K holds, and only reads. -/
def FnTells (K : World → Prop) (v : Value) (ok : Int → Prop) (f : Int → Bool) : Prop :=
  ∃ F recv caps, v = .func (.func F) recv caps ∧ (∀ args w, (callFunc F args).run Tryd.prog w = .ok (.enter F args) w) ∧
    ∀ W x, K W → ok x → Calls Tryd.prog F (recv ++ #[.int .i64 x] ++ caps) W fun e W' => e = .returned (.bool (f x)) ∧ W = W'
/-- Numbers behind an address. -/
def IntsAt (w : World) (a : Option Addr) (l : List Int) : Prop := ∀ i, (h : i < l.length) → ∃ p : Addr, a = some p ∧ w.cell? (p.add i) = some (.int .i64 l[i])
theorem IntsAt.index {w : World} {a : Option Addr} {l : List Int} (h : IntsAt w a l) (cap k : Nat) (hk : k < l.length) :
    ∃ q : Addr, (∀ W, (Instr.indexAt 31 (.slice a l.length cap) (.int .i64 (k : Int))).run Tryd.prog W = .ok (.pointer (some q)) W) ∧ w.cell? q = some (.int .i64 l[k]) := by
  obtain ⟨p, rfl, h1⟩ := h k hk
  refine ⟨p.add k, fun W => ?_, h1⟩
  have := run_index_slice Tryd.prog 31 3 Tryd.underlying31 1 (by kernel_rfl) p l.length cap k hk W
  rwa [Nat.mul_one] at this
/-- What IndexFunc answers. -/
def idxI (f : Int → Bool) (l : List Int) : Int := match l.findIdx? f with
  | some i => (i : Int)
  | none => -1
theorem idxI_some {f : Int → Bool} {l : List Int} {k : Nat} (hk : k < l.length) (h : f l[k] = true) (hn : ∀ j (hj : j < k), f (l[j]'(by omega)) = false) : idxI f l = (k : Int) := by
  have : l.findIdx? f = some k := List.findIdx?_eq_some_iff_getElem.2 ⟨hk, h, fun j hj => by rw [hn j hj]; decide⟩
  unfold idxI; rw [this]
theorem idxI_none {f : Int → Bool} {l : List Int} (hn : ∀ j (hj : j < l.length), f l[j] = false) : idxI f l = -1 := by
  have : l.findIdx? f = none := List.findIdx?_eq_none_iff.2 fun x hx => by
    obtain ⟨i, hi, rfl⟩ := List.getElem_of_mem hx
    exact hn i hi
  unfold idxI; rw [this]
theorem idxI_neg (f : Int → Bool) (l : List Int) : decide (0 ≤ idxI f l) = l.any f := by
  unfold idxI
  cases h : l.findIdx? f with
  | none =>
    have := List.findIdx?_eq_none_iff.1 h
    have e : l.any f = false := by simpa using this
    rw [e]; rfl
  | some i =>
    obtain ⟨hi, h1, _⟩ := List.findIdx?_eq_some_iff_getElem.1 h
    have e : l.any f = true := List.any_eq_true.2 ⟨_, List.getElem_mem hi, h1⟩
    rw [e]; simp

set_option maxRecDepth 100000 in
set_option maxHeartbeats 1000000 in
theorem indexf_any {w : World} {K : World → Prop} {v : Value} {ok : Int → Prop} {f : Int → Bool} {a : Option Addr} {l : List Int} (cap : Nat) (hl : IntsAt w a l) (hf : FnTells K v ok f) (hK : K w) (hok : ∀ x ∈ l, ok x) (hlen : l.length ≤ 1000000000) :
    Calls Tryd.prog 77 #[.slice a l.length cap, v] w fun e w' => e = .returned (.int .i64 (idxI f l)) ∧ w = w' := by
  obtain ⟨F, recv, caps, rfl, hent, hcall⟩ := hf
  have HL := Lib.hid hl; have HC := Lib.hid hcall; have HK := Lib.hid hK; have HOK := Lib.hid hok
  clear hl hcall hK hok
  go_enter Tryd.func77, Tryd.ntmps77
  go_wp2_with fail
  go_loopw [5, 8] (fun _ i wr => ∃ k : Nat, k ≤ l.length ∧ i = .int .i64 k ∧ w = wr ∧ ∀ j (hj : j < k), (h : j < l.length) → f l[j] = false) (fun _ i _ => l.length - (intOf i).toNat)
  case atStart => exact ⟨0, Nat.zero_le _, rfl, rfl, fun j hj => by omega⟩
  case round =>
    obtain ⟨k, hk, rfl, rfl, hno⟩ := hrel
    have HNO := Lib.hid hno
    clear hno
    by_cases hlt : k < l.length
    · obtain ⟨q, hix, hc⟩ := HL.out.index cap k hlt
      have hcl := HC.out w l[k] HK.out (HOK.out _ (List.getElem_mem hlt))
      have HID := Lib.hid (show f l[k] = true → idxI f l = (k : Int) from fun h => idxI_some hlt h (fun j hj => HNO.out j hj (by omega)))
      have HNX := Lib.hid (show f l[k] = false → ∀ j (hj : j < k + 1), (h : j < l.length) → f l[j] = false from fun h j hj h' => by
        by_cases e : j = k
        · subst e; exact h
        · exact HNO.out j (by omega) h')
      generalize l[k] = x at *
      have HCL := Lib.hid hcl
      clear hcl
      go_wp2_with fail
      refine HCL.out.mono ?_
      rintro e w1 ⟨rfl, rfl⟩
      generalize f x = s at *
      cases s with
      | true =>
        have HI2 := Lib.hid (HID.out rfl)
        clear HID HNX
        go_wp2_with fail
        go_ret
        exact ⟨by rw [HI2.out]; rfl, rfl⟩
      | false =>
        have HN := Lib.hid (HNX.out rfl)
        clear HID HNX
        go_wp2_with fail
        go_roundw
        case rel => exact ⟨k + 1, by omega, by go_num, by first | rfl | trivial, HN.out⟩
        case measure => simp [intOf]; omega
    · obtain rfl : k = l.length := by omega
      have HN := Lib.hid (show idxI f l = -1 from idxI_none (fun j hj => HNO.out j hj hj))
      go_wp2_with fail
      go_ret
      exact ⟨by rw [HN.out]; rfl, rfl⟩
set_option maxRecDepth 100000 in
theorem containsf_any {w : World} {K : World → Prop} {v : Value} {ok : Int → Prop} {f : Int → Bool} {a : Option Addr} {l : List Int} (cap : Nat) (hl : IntsAt w a l) (hf : FnTells K v ok f) (hK : K w) (hok : ∀ x ∈ l, ok x) (hlen : l.length ≤ 1000000000) :
    Calls Tryd.prog 69 #[.slice a l.length cap, v] w fun e w' => e = .returned (.bool (l.any f)) ∧ w = w' := by
  have HI := Lib.hid (indexf_any cap hl hf hK hok hlen)
  have HE := Lib.hid (idxI_neg f l)
  clear hl hf hK hok
  generalize idxI f l = i at *
  go_enter Tryd.func69, Tryd.ntmps69
  go_wp2_with fail
  refine HI.out.mono ?_
  rintro e w1 ⟨rfl, rfl⟩
  go_wp2_with fail
  go_ret
  exact ⟨by rw [← HE.out]; rfl, rfl⟩
end Go.Proofs.YtgmhglcdifhimaaDoor
