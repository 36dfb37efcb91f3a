/- maslin/task.where at 'map[int]int', walked: the keys of a map that have a value, rising. -/
import Derived.Test.YtgmhglcdifhimaaDoorTaskWhere
namespace Go.Proofs.YtgmhglcdifhimaaDoor
open Go.RowKit Go.Maps Go.Sort
open Tsk

set_option maxRecDepth 100000 in
theorem deletef_nil (v : Value) (w : World) : Calls Tryd.prog 61 #[.slice none 0 0, v] w fun e w' => e = .returned (.slice none 0 0) ∧ w = w' := by
  have HI : Hid (Calls Tryd.prog 77 #[.slice none 0 0, v] w fun e w' => e = .returned (.int .i64 (-1)) ∧ w = w') := Lib.hid (by
    go_enter Tryd.func77, Tryd.ntmps77
    go_wp2_with fail
    go_loopw [5, 8] (fun _ i wr => i = .int .i64 0 ∧ w = wr) (fun _ _ _ => 0)
    case atStart => exact ⟨rfl, rfl⟩
    case round =>
      obtain ⟨rfl, rfl⟩ := hrel
      go_wp2_with fail
      go_ret
      exact ⟨rfl, rfl⟩)
  go_enter Tryd.func61, Tryd.ntmps61
  go_wp2_with fail
  refine HI.out.mono ?_
  rintro e w1 ⟨rfl, rfl⟩
  go_wp2_with fail
  go_ret
  exact ⟨rfl, rfl⟩
/-- DeleteFunc of a row of one's own. -/
theorem deletef_row {w : World} {base : Nat} {s : Value} {K : World → Prop} {v : Value} {ok : Int → Prop} {f : Int → Bool} {l : List Int} (h : w.ownsRow base 3 1 s l.length (l.map encZ)) (hf : FnTells K v ok f) (hK : ∀ W, Upd (fun k => s.ownBlock = some k) w W → K W) (hok : ∀ x ∈ l, ok x) (hlen : l.length ≤ 1000000000) :
    Calls Tryd.prog 61 #[s, v] w fun e w' => ∃ q cap, e = .returned (.slice q (l.filter fun x => !f x).length cap) ∧ IntsAt w' q (l.filter fun x => !f x) ∧ Upd (fun k => s.ownBlock = some k) w w' ∧ ∀ p, q = some p → s.ownBlock = some p.block := by
  rcases h.2 with ⟨e1, e2⟩ | ⟨g, cap, cur, e1, _, hg, h1, _, h3, h4⟩
  · subst e1
    obtain rfl : l = [] := List.length_eq_zero_iff.1 e2
    refine (deletef_nil v w).mono ?_
    rintro e w' ⟨rfl, rfl⟩
    exact ⟨none, 0, rfl, fun i hi => by simp at hi, Upd.refl _ _, fun p e => by cases e⟩
  · subst e1
    have hl : ∀ t, (ht : t < l.length) → w.cell? ⟨g, t, none⟩ = some (.int .i64 l[t]) := fun t ht => by
      have := h.cells (g := g) rfl t (.int .i64 l[t]) (by rw [List.getElem?_map, List.getElem?_eq_getElem ht]; rfl)
      rwa [add_plain] at this
    have hob : ∀ k, (Value.slice (some ⟨g, 0, none⟩) l.length cap).ownBlock = some k ↔ k = g := fun k => by simp [Value.ownBlock]; exact eq_comm
    refine (deletef_any (cap := cap) ⟨cur, hg, by omega⟩ h1 hl hf (fun W hu => hK W (hu.mono fun k hk => (hob k).2 hk)) hok hlen).mono ?_
    rintro e w' ⟨rfl, h5, h6⟩
    exact ⟨_, cap, rfl, fun i hi => ⟨_, rfl, by rw [add_plain]; exact h5 i hi⟩, h6.mono fun k hk => (hob k).2 hk, fun p e => by cases e; rfl⟩
theorem IntMap.key_wf {w : World} {m : Nat} {kv : List (Int × Value)} (h : IntMap Tryd.prog 3 w m kv) (x : Int) (hx : x ∈ kv.map (·.1)) : (Lit.int .i64 x).wf = true := by
  obtain ⟨D, hown, _, hp⟩ := h.keyed
  exact intKeys_wf hown Tryd.underlying3 x (hp.mem_iff.1 hx)
theorem int_zero (W : World) : (zeroValue 3).run Tryd.prog W = .ok (.int .i64 0) W := (zero_of_info (show (Tryd.prog.info? 3).map (fun i => (i.zero, i.size)) = some (some (.int .i64 0), 1) by kernel_rfl)).1 W
set_option maxRecDepth 100000 in
theorem whereA_fn {W : World} {B0 B1 m : Nat} {t : Int} {kv : List (Int × Value)} {g : Int → Int} (h0 : W.cell? ⟨B0, 0, none⟩ = some (.map (some m))) (h1 : W.cell? ⟨B1, 0, none⟩ = some (.int .i64 t)) (hm : IntMap Tryd.prog 3 W m kv) (hg : ∀ x ∈ kv.map (·.1), kvGet kv x = some (.int .i64 (g x))) (x : Int) (hx : x ∈ kv.map (·.1)) :
    Calls Tryd.prog 62 #[.int .i64 x, .pointer (some ⟨B0, 0, none⟩), .pointer (some ⟨B1, 0, none⟩)] W fun e W' => e = .returned (.bool (g x != t)) ∧ W = W' := by
  have hl := hm.lookup Tryd.underlying3 Tryd.underlying81 (z := .int .i64 0) (int_zero W) x (hm.key_wf x hx)
  rw [hg x hx] at hl
  simp only [Option.getD_some] at hl
  clear hm hg hx
  generalize g x = y at *
  go_enter Tryd.func62, Tryd.ntmps62
  go_wp2_with fail
  go_ret
  exact ⟨rfl, rfl⟩
set_option maxRecDepth 100000 in
set_option maxHeartbeats 1000000 in
theorem whereA_any {w : World} {m : Nat} {kv : List (Int × Value)} {g : Int → Int} (t : Int) (hm : IntMap Tryd.prog 3 w m kv) (hg : ∀ x ∈ kv.map (·.1), kvGet kv x = some (.int .i64 (g x))) (hlen : kv.length ≤ 1000000) :
    Calls Tryd.prog 39 #[.map (some m), .int .i64 t] w fun e w' => ∃ q cap, e = .returned (.slice q ((sortI (kv.map (·.1))).filter fun x => !(g x != t)).length cap) ∧ IntsAt w' q ((sortI (kv.map (·.1))).filter fun x => !(g x != t)) ∧ Below w.heap.size w w' ∧ ∀ p, q = some p → w.heap.size ≤ p.block := by
  have hmlt := hm.lt
  have hb2 : Below w.heap.size w ((w.alloc (.cells #[.map (some m)] 81)).alloc (.cells #[.int .i64 t] 3)) := ((Below.refl _ _).alloc (Nat.le_refl _) _).alloc (by simp) _
  have HB2 := Lib.hid hb2
  have hm2 := hm.kept (hb2.block m hmlt)
  have HK := Lib.hid (mapKeysA (some m) ((w.alloc (.cells #[.map (some m)] 81)).alloc (.cells #[.int .i64 t] 3)))
  have hs := sortedKeysA hm2 hlen
  simp only [World.size_alloc] at hs
  have HS := Lib.hid hs
  have c0 : ((w.alloc (.cells #[.map (some m)] 81)).alloc (.cells #[.int .i64 t] 3)).cell? ⟨w.heap.size, 0, none⟩ = some (.map (some m)) := by simp
  have c1 : ((w.alloc (.cells #[.map (some m)] 81)).alloc (.cells #[.int .i64 t] 3)).cell? ⟨w.heap.size + 1, 0, none⟩ = some (.int .i64 t) := by simp
  have HC0 := Lib.hid c0; have HC1 := Lib.hid c1
  have HM := Lib.hid hm2; have HG := Lib.hid hg
  have HLT := Lib.hid hmlt
  clear hm hm2 hg hb2 hmlt c0 c1 hs
  go_enter Tryd.func39, Tryd.ntmps39
  go_wp2_with fail
  refine HK.out.mono ?_
  rintro e w3 ⟨rfl, rfl⟩
  go_wp2_with fail
  refine HS.out.mono ?_
  rintro e w4 ⟨v, rfl, hrow, hb4⟩
  have hll : (sortI (kv.map (·.1))).length = kv.length := by rw [(sortI_perm _).length_eq, List.length_map]
  rw [← hll] at hrow
  have hbase : ∀ k, v.ownBlock = some k → w.heap.size + 1 + 1 + 1 ≤ k := fun k hk => by
    rcases hrow.2 with ⟨e1, _⟩ | ⟨g', cap, cur, e1, hb, _⟩
    · subst e1; simp [Value.ownBlock] at hk
    · subst e1; simp [Value.ownBlock] at hk; omega
  have hB4 : Below w.heap.size w w4 := HB2.out.trans (hb4.mono (by omega))
  have k0 := ((hb4.cell (p := ⟨w.heap.size, 0, none⟩) (by show w.heap.size < _; omega)).trans HC0.out)
  have k1 := ((hb4.cell (p := ⟨w.heap.size + 1, 0, none⟩) (by show w.heap.size + 1 < _; omega)).trans HC1.out)
  have hm4 : IntMap Tryd.prog 3 w4 m kv := HM.out.kept (hb4.block m (by have := HLT.out; omega))
  have hlt4 := hB4.size
  have hsz4 : w.heap.size + 1 + 1 ≤ w4.heap.size := by have := hb4.size; simp only [World.size_alloc] at this; exact this
  have hdel := deletef_row (K := fun W => W.cell? ⟨w.heap.size, 0, none⟩ = some (.map (some m)) ∧ W.cell? ⟨w.heap.size + 1, 0, none⟩ = some (.int .i64 t) ∧ IntMap Tryd.prog 3 W m kv) (ok := fun x => x ∈ kv.map (·.1)) (f := fun x => g x != t) (v := .func (.func 62) #[] #[.pointer (some ⟨w.heap.size, 0, none⟩), .pointer (some ⟨w.heap.size + 1, 0, none⟩)]) hrow
    ⟨_, _, _, rfl, enters_of Tryd.func62 (by kernel_rfl) rfl, fun W x hK hx => whereA_fn hK.1 hK.2.1 hK.2.2 HG.out x hx⟩
    (fun W hu => ⟨(hu.cell (p := ⟨w.heap.size, 0, none⟩) (by show w.heap.size < _; omega) (fun e => by have : w.heap.size + 1 + 1 + 1 ≤ w.heap.size := hbase _ e; omega)).trans k0, (hu.cell (p := ⟨w.heap.size + 1, 0, none⟩) (by show w.heap.size + 1 < _; omega) (fun e => by have : w.heap.size + 1 + 1 + 1 ≤ w.heap.size + 1 := hbase _ e; omega)).trans k1, hm4.upd hu (fun e => by have := hbase _ e; have := HLT.out; omega)⟩)
    (fun x hx => (sortI_perm _).mem_iff.1 hx) (by rw [hll]; omega)
  have HD := Lib.hid hdel
  have HB4 := Lib.hid hB4
  have HBS := Lib.hid hbase
  clear hrow hb4 hll hbase hB4 k0 k1 hm4 hdel hsz4
  go_wp2_with fail
  refine HD.out.mono ?_
  rintro e w5 ⟨q, cap, rfl, hat, hu, hq⟩
  have HAT := Lib.hid hat; have HU := Lib.hid hu; have HQ := Lib.hid hq
  clear hat hu hq
  go_wp2_with fail
  go_ret
  exact ⟨q, cap, rfl, HAT.out, below_upd HB4.out HU.out (fun k hk => by have := HBS.out k hk; omega) HB4.out.size, fun p e => by have := HBS.out _ (HQ.out p e); omega⟩
end Go.Proofs.YtgmhglcdifhimaaDoor
