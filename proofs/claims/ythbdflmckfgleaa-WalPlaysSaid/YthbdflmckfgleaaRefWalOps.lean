/- maslinref05: fall, mark, Append, Reset, walked. -/
import Derived.Test.YthbdflmckfgleaaRefWalOpen
namespace Go.Proofs.Ythbdflmckfgleaa
open Go.RowKit Go.Maps
open Wal

/-- 'append([]T(nil), l...)', of a row that is the walk's own. -/
theorem wpList_copy_row {P : Program} {w : World} {ops : Array Oper} {rest : List Oper} {o : Oper} {a : Act} {Q : Exit → Act → World → Prop} (hgd : o.guard = none) (s x : Operand) (t : TypeId)
    (ho : o.op = .call { callee := .builtin .append, args := #[s, x], argTypes := #[t, t] }) (hs : a.eval s = .slice none 0 0) (v : Value) (hx : a.eval x = v)
    (e : TypeId) (i : TypeInfo) (z : Value) (size bytes : Nat) (ht : P.underlying t = some (.slice e)) (hi : P.info? e = some i) (hz : i.zero = some z)
    (hsize : i.size = size) (hby : i.bytes = bytes) (hzs : z.cells.size = size) (hsz : 0 < size) (n : Nat) (xs : List Value) (h1 : ∀ u ∈ xs, u.oneCell' = true) (hown : w.ownsRow 0 e size v n xs)
    (hn : n ≤ maxLen) (hb : n * bytes ≤ 140737488355328)
    (h : ∀ v' w', w'.ownsRow 0 e size v' n xs → Below w.heap.size w w' → (∀ g, v'.ownBlock = some g → w.heap.size ≤ g) → wpList P ops Q rest (a.put o.dst v') w') :
    wpList P ops Q (o :: rest) a w := by
  refine wpList_plain hgd fun K hK => ?_
  obtain ⟨v', w', hr, h2, h3, h4⟩ := run_copy_row (P := P) w t o.type e i z size bytes ht hi hz hsize hby hzs hsz v n xs h1 hown hn hb
  unfold Oper.wp execOp
  simp only [ho, resolve, invoke, builtin, Sem.run_bind, Sem.run_pure, Result.andThen_ok, List.map_toArray, List.map_cons, List.map_nil, hs, hx, hr]
  exact hK _ _ (h v' w' h2 h3 h4)
/-- 'append([]string(nil), l...)', of texts that came in. -/
theorem run_copy_texts (w : World) (ty : TypeId) (a : Option Addr) (cap : Nat) (l : List (List UInt8)) (h : TextsAt w a l) (hz : a = none → cap = 0) (hlen : l.length ≤ 1000000000) :
    ∃ v' w', (Builtin.append_ #[31, 31] ty #[.slice none 0 0, .slice a l.length cap]).run Try.prog w = .ok v' w' ∧ w'.ownsRow 0 9 1 v' l.length (strCells l) ∧ Below w.heap.size w w' ∧ ∀ g, v'.ownBlock = some g → w.heap.size ≤ g := by
  obtain ⟨i0, hi0, hz0, hz1, hz2⟩ := info_parts str_info3
  cases a with
  | none =>
    have e : l = [] := by
      cases l with
      | nil => rfl
      | cons x l => obtain ⟨p, hp, _⟩ := h 0 (by simp); cases hp
    subst e
    rw [hz rfl]
    refine ⟨_, w, run_append_owned_none (P := Try.prog) (w := w) 0 31 ty 9 i0 1 Try.underlying31 hi0 _ 0 [] (World.ownsRow_nil _ _ _ _), ?_, Below.refl _ _, fun g e => by simp [Value.ownBlock] at e⟩
    rw [strCells_nil]
    exact World.ownsRow_nil _ _ _ _
  | some p =>
    have hc : ∀ j u, (strCells l)[j]? = some u → w.cell? (p.add j) = some u := fun j u hj => by
      have hjl : j < l.length := by
        have := (List.getElem?_eq_some_iff.1 hj).1
        rwa [strCells_length] at this
      obtain ⟨p', hp', hcell⟩ := h j hjl
      cases hp'
      rw [strCells_get l j hjl] at hj
      rw [hcell, ← hj]
    obtain ⟨v', w', hr, g2, g3, _, g5⟩ := run_append_own_at (P := Try.prog) w 0 31 ty 9 i0 _ 1 16 Try.underlying31 hi0 hz0 hz1 hz2 rfl (by omega) (.slice none 0 0) 0 [] (World.ownsRow_nil _ _ _ _) p l.length cap (strCells l) (by rw [strCells_length]; omega) hc (strCells_one l) (by unfold maxLen; omega) (by omega) (Nat.zero_le _)
    rw [Nat.zero_add, List.nil_append] at g2
    refine ⟨v', w', hr, g2, (Below.refl _ w).grown g3 (Nat.le_refl _) (fun k e => by cases e), fun k hk => ?_⟩
    rcases g5 with g5 | g5
    · rw [g5] at hk; cases hk
    · rw [g5] at hk
      have := Option.some.inj hk
      omega
theorem wpList_copy_texts {w : World} {ops : Array Oper} {rest : List Oper} {o : Oper} {a : Act} {Q : Exit → Act → World → Prop} (hgd : o.guard = none) (s x : Operand)
    (ho : o.op = .call { callee := .builtin .append, args := #[s, x], argTypes := #[31, 31] }) (hs : a.eval s = .slice none 0 0) (ad : Option Addr) (cap : Nat) (l : List (List UInt8)) (hx : a.eval x = .slice ad l.length cap)
    (ht : TextsAt w ad l) (hz : ad = none → cap = 0) (hlen : l.length ≤ 1000000000)
    (h : ∀ v' w', w'.ownsRow 0 9 1 v' l.length (strCells l) → Below w.heap.size w w' → (∀ g, v'.ownBlock = some g → w.heap.size ≤ g) → wpList Try.prog ops Q rest (a.put o.dst v') w') :
    wpList Try.prog ops Q (o :: rest) a w := by
  refine wpList_plain hgd fun K hK => ?_
  obtain ⟨v', w', hr, h2, h3, h4⟩ := run_copy_texts w o.type ad cap l ht hz hlen
  unfold Oper.wp execOp
  simp only [ho, resolve, invoke, builtin, Sem.run_bind, Sem.run_pure, Result.andThen_ok, List.map_toArray, List.map_cons, List.map_nil, hs, hx, hr]
  exact hK _ _ (h v' w' h2 h3 h4)

theorem RWalIn.setFault {w : World} {x b : Nat} {gv : Value} {L : WLog} (h : RWalIn w x b gv L) (k : Int) : RWalIn (w.setCell ⟨x, 6, none⟩ (.int .i64 k)) x b gv (L.fell k) := by
  have hu : Upd (fun i => i = x) w (w.setCell ⟨x, 6, none⟩ (.int .i64 k)) := (Upd.refl (fun i => i = x) w).setCell (p := ⟨x, 6, none⟩) (.inl rfl) _
  exact ⟨heap_setCell_same w x 6 _ _ _ h.struct, h.groups.upd hu (fun i hi e => by subst e; exact BlkOf.ne hi ⟨_, _, h.struct⟩ (by decide) rfl) (fun g hg e => h.ne (by rw [hg, e])), h.gen, h.used, h.n⟩
def WLog.felt (L : WLog) (k : Int) : WLog := if k = 0 then L else L.fell k
theorem WLog.felt_ok (L : WLog) : L.felt 0 = L := rfl
theorem WLog.felt_no (L : WLog) {k : Int} (h : ¬ k = 0) : L.felt k = L.fell k := if_neg h
theorem rfall_any {w : World} {x b : Nat} {gv : Value} {L : WLog} (h : RWalIn w x b gv L) (k : Int) :
    Calls Try.prog 107 #[.pointer (some ⟨x, 0, none⟩), .int .i64 k] w fun e w' => e = .returned (.int .i64 k) ∧ RWalIn w' x b gv (L.felt k) ∧ Upd (fun i => i = x) w w' := by
  obtain ⟨_, _, _, _, _, _, d6, df⟩ := h.cells
  have df6 := df 6
  have H := Lib.hid h
  clear h df
  by_cases h0 : k = 0
  · subst h0
    go_enter Try.func107, Try.ntmps107
    go_wp2_with fail
    go_ret
    exact ⟨rfl, by rw [WLog.felt_ok]; exact H.out, Upd.refl _ _⟩
  · have hb1 : (k == 0) = false := by simp [h0]
    have hb2 : (k != 0) = true := by simp [h0]
    have H0 := Lib.hid h0
    clear h0
    go_enter Try.func107, Try.ntmps107
    go_wp2_with fail
    go_ret
    exact ⟨rfl, by rw [WLog.felt_no _ H0.out]; exact H.out.setFault k, (Upd.refl (fun i => i = x) w).setCell (p := ⟨x, 6, none⟩) (.inl rfl) _⟩

/-- What is done to the document's disk, and an error laid down, leave. -/
def RDoPost (w : World) (x b : Nat) (gv : Value) (L : WLog) (fp : Nat → Prop) (r : Dsk × Int) (e : Ending) (w' : World) : Prop :=
  e = .returned (.int .i64 r.2) ∧ ∃ fp', RefAt w' b r.1 fp' ∧ RWalIn w' x b gv (if r.2 = 0 then L else L.fell r.2) ∧ Upd (fun k => NoStr w fp k ∨ k = x) w w' ∧ Stays fp fp' w
theorem RefAt.setX {w w' : World} {x b : Nat} {gv : Value} {L : WLog} {D : Dsk} {fp : Nat → Prop} (hd : RefAt w b D fp) (hl : RWalIn w x b gv L) (hu : Upd (fun i => i = x) w w') : RefAt w' b D fp :=
  hd.upd hu (fun k hk e => hl.apart hd k hk (.inl e))
/-- One step of the disk behind another, beside a log. -/
theorem upd_beside {fp fp1 : Nat → Prop} {w w1 w2 : World} {x : Nat} {t : TypeId} (hx : BlkOf w x t) (ht : t ≠ 9) (h : Upd (fun k => NoStr w fp k ∨ k = x) w w1) (k : Upd (fun k => NoStr w1 fp1 k ∨ k = x) w1 w2) (hs : Stays fp fp1 w) : Upd (fun k => NoStr w fp k ∨ k = x) w w2 :=
  h.trans k (fun i hi => by
    rcases hi with hi | hi
    · rcases hs i hi.1 with h1 | h1
      · by_cases hlt : i < w.heap.size
        · refine .inl (.inl ⟨h1, fun hs => hi.2 ?_⟩)
          obtain ⟨cs, fr, e⟩ := hs
          refine ⟨cs, fr, (h.block i hlt (fun hn => hn.elim (fun hn => hn.2 ⟨cs, fr, e⟩) (fun e2 => ?_))).trans e⟩
          subst e2
          exact BlkOf.ne hx ⟨cs, fr, e⟩ ht rfl
        · exact .inr (by omega)
      · exact .inr h1
    · exact .inl (.inr hi))
theorem RWalIn.blk {w : World} {x b : Nat} {gv : Value} {L : WLog} (h : RWalIn w x b gv L) : BlkOf w x 133 := ⟨_, _, h.struct⟩
theorem stays_trans {fp fp1 fp2 : Nat → Prop} {w w1 : World} (h : Stays fp fp1 w) (hs : w.heap.size ≤ w1.heap.size) (k : Stays fp1 fp2 w1) : Stays fp fp2 w := fun i hi => by
  rcases k i hi with h1 | h1
  · exact h i h1
  · exact .inr (Nat.le_trans hs h1)

section
variable {w : World} {x b : Nat} {gv : Value} {L : WLog} {D : Dsk} {fp : Nat → Prop}
set_option maxRecDepth 100000 in
set_option maxHeartbeats 1000000 in
theorem rmarkw_any (hd : RefAt w b D fp) (hl : RWalIn w x b gv L) (gen used : Nat) (hg : gen < 18446744073709551616) (hu : used ≤ 1000000) (hlo : D.loose.length ≤ 400000000) :
    Calls Try.prog 108 #[.pointer (some ⟨x, 0, none⟩), .int .u64 gen, .int .i64 used] w fun e w' => RDoPost w x b gv L fp (doS [fun D => D.write (L.from_ : Int) (Wal.mark gen used), Dsk.flush] D) e w' := by
  have g2 := hl.n
  have HD := Lib.hid hd; have HL := Lib.hid hl
  have hm := fun (W' : World) => rmark_any gen used W' hg (by omega)
  have hml := Wal.mark_length gen used
  have hw := fun (W' : World) (hb : Below w.heap.size w W') => rwrite_any (hd.below hb) (L.from_ : Int) (Wal.mark gen used) (by omega) (by omega) (by omega)
  have hlo2 := Dsk.write_loose D (L.from_ : Int) (Wal.mark gen used)
  rw [hml] at hlo2
  obtain ⟨E, k, hr⟩ : ∃ E k, D.write (L.from_ : Int) (Wal.mark gen used) = (E, k) := ⟨_, _, rfl⟩
  rw [hr] at hlo2
  have hlo3 : E.loose.length ≤ 400000001 := by have : E.loose.length ≤ D.loose.length + 64 / 64 := hlo2; omega
  simp only [hr] at hw
  have HS : Hid (doS [fun D => D.write (L.from_ : Int) (Wal.mark gen used), Dsk.flush] D = if k = 0 then doS [Dsk.flush] E else (E, k)) := Lib.hid (by rw [doS_cons]; simp only [hr])
  have HM := Lib.hid hm
  have HW := Lib.hid hw
  obtain ⟨d0, d1, _, _, _, _, _, _⟩ := hl.cells
  clear hd hl hm hw hml hg hr hlo2
  go_enter Try.func108, Try.ntmps108
  go_wp2_with fail
  go_region_held3 (fun V => V.cell? ⟨x, 0, none⟩ = some (.pointer (some ⟨b, 0, none⟩)) ∧ V.cell? ⟨x, 1, none⟩ = some (.int .i64 (L.from_ : Int)))
    (first | exact ⟨d0, d1⟩ | exact ⟨KM.out.cells.1, KM.out.cells.2.1⟩ | exact ⟨KA.out.cells.1, KA.out.cells.2.1⟩)
    (first
      | (go_at_call 81; refine (HM.out _).mono ?_; rintro e wm ⟨rfl, hbm⟩; have HBM := Lib.hid (((Below.refl w.heap.size w).drew).trans hbm); have KM := Lib.hid (HL.out.below HBM.out); clear hbm)
      | (go_at_call 43; refine (HW.out _ HBM.out).mono ?_; rintro e wa ⟨rfl, fpa, hda, hua, hsa⟩; have KA := Lib.hid (KM.out.disk (HD.out.below HBM.out) hua); have HDA := Lib.hid hda; have HUA := Lib.hid hua; have HSA := Lib.hid hsa; clear hda hua hsa))
  have hu0 : Upd (fun k => NoStr w fp k ∨ k = x) w wa := (Upd.of_below (F := fun k => NoStr w fp k ∨ k = x) HBM.out).trans HUA.out (fun i hi => by
    by_cases hlt : i < w.heap.size
    · refine .inl (.inl ⟨hi.1, fun hs => hi.2 ?_⟩)
      obtain ⟨cs, fr, e⟩ := hs
      exact ⟨cs, fr, (HBM.out.block i hlt).trans e⟩
    · exact .inr (by omega))
  have HU0 := Lib.hid hu0
  have HSA2 := Lib.hid (show Stays fp fpa w from fun i hi => by
    rcases HSA.out i hi with h | h
    · exact .inl h
    · exact .inr (Nat.le_trans HBM.out.size h))
  clear hu0
  by_cases h0 : k = 0
  · subst h0
    have HS2 := Lib.hid (HS.out.trans (if_pos rfl))
    have e0 := KA.out.cells.1
    have HSZ := Lib.hid HU0.out.size
    obtain ⟨E2, k2, hr2⟩ : ∃ E2 k2, E.flush = (E2, k2) := ⟨_, _, rfl⟩
    have hfl := rflush_any HDA.out (by omega)
    rw [hr2] at hfl
    have HFL := Lib.hid hfl
    have HS3 := Lib.hid (show doS [fun D => D.write (L.from_ : Int) (Wal.mark gen used), Dsk.flush] D = (E2, k2) by rw [HS2.out, doS_cons, hr2]; by_cases hk : k2 = 0 <;> simp [hk, doS])
    clear hfl hr2
    go_wp2_with fail
    refine HFL.out.mono ?_
    rintro e wf ⟨rfl, fpf, hdf, huf, hsf⟩
    have KF := Lib.hid (KA.out.disk HDA.out huf)
    have HDF := Lib.hid hdf
    have HUF := Lib.hid (upd_beside HL.out.blk (by decide) HU0.out (huf.mono (fun i hi => Or.inl hi)) HSA2.out)
    have HSF := Lib.hid (stays_trans HSA2.out HU0.out.size hsf)
    clear hdf huf hsf e0
    go_wp2_with fail
    refine (rfall_any KF.out k2).mono ?_
    rintro e wg ⟨rfl, hlg, hug⟩
    have HLG := Lib.hid hlg; have HUG := Lib.hid hug
    clear hlg hug
    go_wp2_with fail
    go_ret
    unfold RDoPost
    rw [HS3.out]
    exact ⟨rfl, fpf, HDF.out.setX KF.out HUG.out, HLG.out, HUF.out.trans HUG.out (fun i hi => .inl (.inr hi)), HSF.out⟩
  · have hb1 : (k == 0) = false := by simp [h0]
    have hb2 : (k != 0) = true := by simp [h0]
    have HS2 := Lib.hid (HS.out.trans (if_neg h0))
    clear h0
    go_wp2_with fail
    refine (rfall_any KA.out k).mono ?_
    rintro e wg ⟨rfl, hlg, hug⟩
    have HLG := Lib.hid hlg; have HUG := Lib.hid hug
    clear hlg hug
    go_wp2_with fail
    go_ret
    unfold RDoPost
    rw [HS2.out]
    exact ⟨rfl, fpa, HDA.out.setX KA.out HUG.out, HLG.out, HU0.out.trans HUG.out (fun i hi => .inl (.inr hi)), HSA2.out⟩

/-- What the document's Append, and Reset, leave. -/
def ROpPost (w : World) (x b : Nat) (gv : Value) (fp : Nat → Prop) (r : Dsk × WLog × Int) (e : Ending) (w' : World) : Prop :=
  e = .returned (.int .i64 r.2.2) ∧ ∃ fp' gv', RefAt w' b r.1 fp' ∧ RWalIn w' x b gv' r.2.1 ∧ Upd (fun k => NoStr w fp k ∨ k = x) w w' ∧ Stays fp fp' w ∧ Stays (walBlocks x gv) (walBlocks x gv') w
theorem ropPost_of {w w' : World} {x b : Nat} {gv gv' : Value} {fp fp' : Nat → Prop} {D : Dsk} {L : WLog} {k : Int} {r : Dsk × WLog × Int} {e : Ending} (hr : r = (D, L, k)) (he : e = .returned (.int .i64 k)) (hd : RefAt w' b D fp') (hl : RWalIn w' x b gv' L) (hu : Upd (fun k => NoStr w fp k ∨ k = x) w w') (hs : Stays fp fp' w) (hs2 : Stays (walBlocks x gv) (walBlocks x gv') w) : ROpPost w x b gv fp r e w' := by
  subst hr
  exact ⟨he, fp', gv', hd, hl, hu, hs, hs2⟩
theorem ropPost_same {w w' : World} {x b : Nat} {gv : Value} {fp : Nat → Prop} {D : Dsk} {L : WLog} {k : Int} {r : Dsk × WLog × Int} {e : Ending} (hr : r = (D, L, k)) (he : e = .returned (.int .i64 k)) (hd : RefAt w b D fp) (hl : RWalIn w x b gv L) (hb : Below w.heap.size w w') : ROpPost w x b gv fp r e w' :=
  ropPost_of hr he (hd.below hb) (hl.below hb) (Upd.of_below hb) (fun _ h => .inl h) (fun _ h => .inl h)
theorem RWalIn.setEmpty {w : World} {x b : Nat} {gv : Value} {L : WLog} (h : RWalIn w x b gv L) (g : Nat) (hg : g < 18446744073709551616) : RWalIn (((w.setCell ⟨x, 3, none⟩ (.int .u64 (g : Int))).setCell ⟨x, 5, none⟩ (.int .i64 0)).setCell ⟨x, 4, none⟩ (.slice none 0 0)) x b (.slice none 0 0) { L with gen := g, used := 0, groups := [] } := by
  have e1 := heap_setCell_same w x 3 _ _ (.int .u64 (g : Int)) h.struct
  have e2 := heap_setCell_same _ x 5 _ _ (.int .i64 0) e1
  have e3 := heap_setCell_same _ x 4 _ _ (.slice none 0 0) e2
  exact ⟨e3, GroupsAt.none _, hg, by have := h.used; show 0 + 1 ≤ L.n; omega, h.n⟩

set_option maxRecDepth 100000 in
set_option maxHeartbeats 2000000 in
theorem rreset_any (hd : RefAt w b D fp) (hl : RWalIn w x b gv L) (hlo : D.loose.length ≤ 400000000) :
    Calls Try.prog 95 #[.pointer (some ⟨x, 0, none⟩)] w fun e w' => ROpPost w x b gv fp (wreset D L) e w' := by
  have HD := Lib.hid hd; have HL := Lib.hid hl
  obtain ⟨_, _, _, d3, _, _, d6, _⟩ := hl.cells
  by_cases hf : L.fault = 0
  · have e3 := u64_wrap_succ L.gen
    have hgm : (L.gen + 1) % 18446744073709551616 < 18446744073709551616 := Nat.mod_lt _ (by decide)
    have hmk := rmarkw_any hd hl ((L.gen + 1) % 18446744073709551616) 0 hgm (by decide) hlo
    obtain ⟨E, k, hr⟩ : ∃ E k, doS L.racts D = (E, k) := ⟨_, _, rfl⟩
    have hr' : doS [fun D => D.write (L.from_ : Int) (Wal.mark ((L.gen + 1) % 18446744073709551616) 0), Dsk.flush] D = (E, k) := hr
    rw [hr'] at hmk
    have hR : wreset D L = if k = 0 then (E, L.emptied, 0) else (E, L.fell k, k) := by unfold wreset; rw [if_neg (by simp [hf]), hr]
    have HR := Lib.hid hR
    have HMK := Lib.hid hmk
    have HGM := Lib.hid (And.intro hgm (show L.emptied = { L with gen := (L.gen + 1) % 18446744073709551616, used := 0, groups := [] } from rfl))
    rw [hf] at d6
    clear hd hl hf hgm hmk hr hr' hR
    generalize (L.gen + 1) % 18446744073709551616 = g at *
    go_enter Try.func95, Try.ntmps95
    go_wp2_with fail
    refine HMK.out.mono ?_
    rintro e w3 ⟨rfl, fp3, hd3, hl3, hu3, hs3⟩
    have HD3 := Lib.hid hd3; have HL3 := Lib.hid hl3; have HU3 := Lib.hid hu3; have HS3 := Lib.hid hs3
    clear hd3 hl3 hu3 hs3 d3 d6
    by_cases h0 : k = 0
    · subst h0
      have HR1 := Lib.hid (HR.out.trans (if_pos rfl))
      have hl3 : RWalIn w3 x b gv L := by have := HL3.out; rwa [if_pos rfl] at this
      obtain ⟨_, _, _, d3, d4, d5, _, df⟩ := hl3.cells
      have df3 := df 3
      have df4 := df 4
      have df5 := df 5
      have HL3' := Lib.hid hl3
      clear df hl3
      go_wp2_with fail
      go_ret
      have hu5 : Upd (fun i => i = x) w3 (((w3.setCell ⟨x, 3, none⟩ (.int .u64 (g : Int))).setCell ⟨x, 5, none⟩ (.int .i64 0)).setCell ⟨x, 4, none⟩ (.slice none 0 0)) := (((Upd.refl (fun i => i = x) w3).setCell (p := ⟨x, 3, none⟩) (.inl rfl) _).setCell (p := ⟨x, 5, none⟩) (.inl rfl) _).setCell (p := ⟨x, 4, none⟩) (.inl rfl) _
      refine ropPost_of HR1.out rfl (HD3.out.setX HL3'.out hu5) (L := L.emptied) (gv' := .slice none 0 0) (by rw [HGM.out.2]; exact HL3'.out.setEmpty g HGM.out.1) (HU3.out.trans hu5 (fun i hi => .inl (.inr hi))) HS3.out ?_
      rintro i (hi | hi)
      · exact .inl (.inl hi)
      · simp [Value.ownBlock] at hi
    · have hb1 : (k == 0) = false := by simp [h0]
      have hb2 : (k != 0) = true := by simp [h0]
      have HR1 := Lib.hid (HR.out.trans (if_neg h0))
      have HL3' : Hid (RWalIn w3 x b gv (L.fell k)) := Lib.hid (by have := HL3.out; rwa [if_neg h0] at this)
      clear h0
      go_wp2_with fail
      go_ret
      exact ropPost_of HR1.out rfl HD3.out HL3'.out HU3.out HS3.out (fun _ h => .inl h)
  · have hR : Hid (wreset D L = (D, L, L.fault)) := Lib.hid (by unfold wreset; rw [if_pos hf])
    have hb0 : (L.fault == 0) = false := by simp [hf]
    have hb2 : (L.fault != 0) = true := by simp [hf]
    clear hd hl hf
    go_enter Try.func95, Try.ntmps95
    go_wp2_with fail
    go_ret
    exact ropPost_same hR.out rfl HD.out HL.out (Below.refl _ _)

variable {l : List (List UInt8)} {a : Option Addr} {cap : Nat}
set_option maxRecDepth 100000 in
set_option maxHeartbeats 1000000 in
theorem rappend_early (hd : RefAt w b D fp) (hl : RWalIn w x b gv L) (hx : TextsAt w a l) (hlen : l.length ≤ maxLen) (hsum : rowLen l ≤ 1000000) (hbad : L.fault ≠ 0 ∨ groupE l = none) :
    Calls Try.prog 94 #[.pointer (some ⟨x, 0, none⟩), .slice a l.length cap] w fun e w' => ROpPost w x b gv fp (wappend D L l) e w' := by
  have HD := Lib.hid hd; have HL := Lib.hid hl; have HLEN := Lib.hid hlen; have HX := Lib.hid hx
  obtain ⟨_, _, _, _, _, _, d6, _⟩ := hl.cells
  by_cases hf : L.fault = 0
  · have hg : groupE l = none := hbad.resolve_left (fun h => h hf)
    have hR : Hid (wappend D L l = (D, L, 5)) := Lib.hid (by unfold wappend; rw [if_neg (by simp [hf]), hg])
    have hV : Hid (groupV l = ([], 5)) := Lib.hid (by unfold groupV; rw [hg])
    rw [hf] at d6
    clear hd hl hx hlen hbad hf hg
    go_enter Try.func94, Try.ntmps94
    go_wp2_with fail
    refine (rgroup_any l a cap _ HX.out HLEN.out (by omega)).mono ?_
    rw [hV.out]
    rintro e w1 ⟨rfl, hb⟩
    have HB := Lib.hid hb
    clear hb
    go_wp2_with fail
    go_ret
    exact ropPost_same hR.out rfl HD.out HL.out HB.out
  · have hR : Hid (wappend D L l = (D, L, L.fault)) := Lib.hid (by unfold wappend; rw [if_pos hf])
    have hb0 : (L.fault == 0) = false := by simp [hf]
    have hb2 : (L.fault != 0) = true := by simp [hf]
    clear hd hl hx hlen hbad hf
    go_enter Try.func94, Try.ntmps94
    go_wp2_with fail
    go_ret
    exact ropPost_same hR.out rfl HD.out HL.out (Below.refl _ _)

theorem upd_start {w W' wa : World} {fp : Nat → Prop} {x : Nat} (hb : Below w.heap.size w W') (hu : Upd (NoStr W' fp) W' wa) : Upd (fun k => NoStr w fp k ∨ k = x) w wa :=
  (Upd.of_below (F := fun k => NoStr w fp k ∨ k = x) hb).trans hu (fun i hi => by
    by_cases hlt : i < w.heap.size
    · refine .inl (.inl ⟨hi.1, fun hs => hi.2 ?_⟩)
      obtain ⟨cs, fr, e⟩ := hs
      exact ⟨cs, fr, (hb.block i hlt).trans e⟩
    · exact .inr (by omega))
theorem stays_start {w W' : World} {fp fp1 : Nat → Prop} (hb : Below w.heap.size w W') (hs : Stays fp fp1 W') : Stays fp fp1 w := fun i hi => by
  rcases hs i hi with h | h
  · exact .inl h
  · exact .inr (Nat.le_trans hb.size h)
/-- Three steps' ends. -/
theorem acts_ends {L : WLog} {s : List UInt8} {D E1 E2 E3 : Dsk} {k1 k2 k3 : Int} (h1 : D.write ((L.from_ + 1 + L.used : Nat) : Int) s = (E1, k1)) (h2 : E1.flush = (E2, k2)) (h3 : doS [fun D => D.write (L.from_ : Int) (Wal.mark L.gen (L.used + s.length / 64)), Dsk.flush] E2 = (E3, k3)) :
    (k1 ≠ 0 → doS (L.acts s) D = (E1, k1)) ∧ (k1 = 0 → k2 ≠ 0 → doS (L.acts s) D = (E2, k2)) ∧ (k1 = 0 → k2 = 0 → doS (L.acts s) D = (E3, k3)) := by
  unfold WLog.acts
  rw [doS_cons]
  simp only [h1]
  refine ⟨fun h => by rw [if_neg h], fun h hk => by rw [if_pos h, doS_cons, h2, if_neg hk], fun h hk => by rw [if_pos h, doS_cons, h2, if_pos hk, h3]⟩

set_option maxRecDepth 100000 in
set_option maxHeartbeats 4000000 in
theorem rappend_in (hd : RefAt w b D fp) (hl : RWalIn w x b gv L) (hx : TextsAt w a l) (hap : ∀ p, a = some p → l ≠ [] → ¬ fp p.block ∧ p.block ≠ x) (hcap : a = none → cap = 0) (hlen : l.length ≤ 1000000) (hsum : rowLen l ≤ 1000000) (hf : L.fault = 0) {s : List UInt8} (hg : groupE l = some s) (hloose : D.loose.length ≤ 300000000) (hgl : L.groups.length ≤ 1000000) :
    Calls Try.prog 94 #[.pointer (some ⟨x, 0, none⟩), .slice a l.length cap] w fun e w' => ROpPost w x b gv fp (wappend D L l) e w' := by
  have HD := Lib.hid hd; have HL := Lib.hid hl; have HAP := Lib.hid hap; have HX := Lib.hid hx; have HCAP := Lib.hid hcap
  have hV : Hid (groupV l = (s, 0)) := Lib.hid (by unfold groupV; rw [hg])
  have hR : wappend D L l = if L.n - 1 - L.used < s.length / 64 then (D, L, 4) else
    if (doS (L.acts s) D).2 = 0 then ((doS (L.acts s) D).1, L.grown l (s.length / 64), 0) else ((doS (L.acts s) D).1, L.fell (doS (L.acts s) D).2, (doS (L.acts s) D).2) := by
    unfold wappend; rw [if_neg (by simp [hf]), hg]
  have hsl : s.length ≤ 1000068 := by have := groupV_length l; rw [hV.out] at this; have h2 : s.length ≤ rowLen l + 68 := this; omega
  have g1 := hl.used
  have g2 := hl.n
  have HLEN := Lib.hid (show l.length ≤ maxLen by unfold maxLen; omega)
  obtain ⟨d0, d1, d2, d3, _, d5, d6, _⟩ := hl.cells
  rw [hf] at d6
  have e1 : IntKind.i64.wrap ((L.n : Int) - 1) = (L.n : Int) - 1 := IntWalk.i64_in _ (by omega)
  have e2 : IntKind.i64.wrap ((L.n : Int) - 1 - (L.used : Int)) = (L.n : Int) - 1 - (L.used : Int) := IntWalk.i64_in _ (by omega)
  clear hd hl hap hf hg hx hcap
  by_cases hfull : L.n - 1 - L.used < s.length / 64
  · have HR := Lib.hid (hR.trans (if_pos hfull))
    have hq : (L.n : Int) - 1 - (L.used : Int) < (s.length : Int) / 64 := by omega
    clear hR hfull
    go_enter Try.func94, Try.ntmps94
    go_wp2_with fail
    refine (rgroup_any l a cap _ HX.out HLEN.out (by omega)).mono ?_
    rw [hV.out]
    rintro e w1 ⟨rfl, hb⟩
    have HB := Lib.hid hb
    obtain ⟨d0', d1', d2', d3', _, d5', d6', _⟩ := (HL.out.below hb).cells
    clear hb d0 d1 d2 d3 d5 d6
    go_wp2_with fail
    go_quiet (fail)
    go_wp2_with fail
    go_ret
    exact ropPost_same HR.out rfl HD.out HL.out (HB.out.trans ((below_drawn _ _).mono HB.out.size))
  · have HR0 := Lib.hid (hR.trans (if_neg hfull))
    have hq : (s.length : Int) / 64 ≤ (L.n : Int) - 1 - (L.used : Int) := by omega
    have hkn : L.used + s.length / 64 + 1 ≤ L.n := by omega
    have hk64 : ((s.length / 64 : Nat) : Int) = (s.length : Int) / 64 := by omega
    have f1 : IntKind.i64.wrap ((L.from_ : Int) + 1) = (L.from_ : Int) + 1 := IntWalk.i64_in _ (by omega)
    have f2 : IntKind.i64.wrap ((L.from_ : Int) + 1 + (L.used : Int)) = (L.from_ : Int) + 1 + (L.used : Int) := IntWalk.i64_in _ (by omega)
    have f3 : IntKind.i64.wrap ((L.used : Int) + ((s.length / 64 : Nat) : Int)) = (L.used : Int) + ((s.length / 64 : Nat) : Int) := IntWalk.i64_in _ (by omega)
    have hat : ((L.from_ + 1 + L.used : Nat) : Int) = (L.from_ : Int) + 1 + (L.used : Int) := by omega
    obtain ⟨E1, k1, hr1⟩ : ∃ E k, D.write ((L.from_ + 1 + L.used : Nat) : Int) s = (E, k) := ⟨_, _, rfl⟩
    obtain ⟨E2, k2, hr2⟩ : ∃ E k, E1.flush = (E, k) := ⟨_, _, rfl⟩
    obtain ⟨E3, k3, hr3⟩ : ∃ E k, doS [fun D => D.write (L.from_ : Int) (Wal.mark L.gen (L.used + s.length / 64)), Dsk.flush] E2 = (E, k) := ⟨_, _, rfl⟩
    have HENDS := Lib.hid (acts_ends hr1 hr2 hr3)
    have hlo1 : E1.loose.length ≤ 310000000 := by
      have := Dsk.write_loose D ((L.from_ + 1 + L.used : Nat) : Int) s
      rw [hr1] at this
      have h2 : E1.loose.length ≤ D.loose.length + s.length / 64 := this
      omega
    have hlo2 : E2.loose.length ≤ 310000000 := by
      have := Dsk.flush_loose E1
      rw [hr2] at this
      have h2 : E2.loose.length ≤ E1.loose.length := this
      omega
    have hw := fun (W' : World) (hb : Below w.heap.size w W') => rwrite_any (HD.out.below hb) ((L.from_ + 1 + L.used : Nat) : Int) s (by omega) (by omega) (by omega)
    simp only [hr1] at hw
    simp only [hat] at hw
    have HW := Lib.hid hw
    have HR2 := Lib.hid hr2; have HR3 := Lib.hid hr3
    have g3 := Lib.hid HL.out.gen
    clear hR hfull hat hr1 hr2 hr3 hw
    go_enter Try.func94, Try.ntmps94
    go_wp2_with fail
    refine (rgroup_any l a cap _ HX.out HLEN.out (by omega)).mono ?_
    rw [hV.out]
    rintro e w1 ⟨rfl, hb⟩
    have HB := Lib.hid hb
    have HL1 := Lib.hid (HL.out.below hb)
    obtain ⟨d0', d1', d2', d3', _, d5', d6', _⟩ := (HL.out.below hb).cells
    clear hb d0 d1 d2 d3 d5 d6
    go_wp2_with fail
    go_quiet (fail)
    have hbq : Below w.heap.size w (w1.drewN nq) := HB.out.trans ((below_drawn _ _).mono HB.out.size)
    have HBQ := Lib.hid hbq
    have HLQ := Lib.hid (HL.out.below hbq)
    have HK := Lib.hid hk64
    clear hbq HB HL1 d2' d3' d6' hq
    go_wp2_with fail
    go_region_held3 (fun V => V.cell? ⟨x, 0, none⟩ = some (.pointer (some ⟨b, 0, none⟩)) ∧ V.cell? ⟨x, 1, none⟩ = some (.int .i64 (L.from_ : Int)) ∧ V.cell? ⟨x, 5, none⟩ = some (.int .i64 (L.used : Int)))
      (first | exact ⟨d0', d1', d5'⟩ | exact ⟨KA.out.cells.1, KA.out.cells.2.1, KA.out.cells.2.2.2.2.2.1⟩)
      (first
        | (go_at_call 43; refine (HW.out _ (HBQ.out.drew)).mono ?_; rintro e wa ⟨rfl, fpa, hda, hua, hsa⟩; have KA := Lib.hid ((HLQ.out.below (Below.refl _ _).drew).disk (HD.out.below HBQ.out.drew) hua); have HDA := Lib.hid hda; have HUA := Lib.hid (upd_start (x := x) HBQ.out.drew hua); have HSA := Lib.hid (stays_start HBQ.out.drew hsa); clear hda hua hsa))
    simp only [← hk64]
    clear hk64 d0' d1' d5' HK
    generalize s.length / 64 = kk at *
    by_cases h1 : k1 = 0
    · have HN2 := Lib.hid (HENDS.out.2.1 h1)
      have HN3 := Lib.hid (HENDS.out.2.2 h1)
      clear HENDS
      subst h1
      have e0 := KA.out.cells.1
      have hfl := rflush_any HDA.out (by omega)
      rw [HR2.out] at hfl
      have HFL := Lib.hid hfl
      clear hfl
      go_wp2_with fail
      refine HFL.out.mono ?_
      rintro e wf ⟨rfl, fpf, hdf, huf, hsf⟩
      have KF := Lib.hid (KA.out.disk HDA.out huf)
      have HDF := Lib.hid hdf
      have HUF := Lib.hid (upd_beside HL.out.blk (by decide) HUA.out (huf.mono (fun i hi => Or.inl hi)) HSA.out)
      have HSF := Lib.hid (stays_trans HSA.out HUA.out.size hsf)
      clear hdf huf hsf e0
      by_cases h2 : k2 = 0
      · have HS := Lib.hid (HN3.out h2)
        clear HN2 HN3
        subst h2
        obtain ⟨d0, d1, d2, d3, d4, d5, d6, _⟩ := KF.out.cells
        have hmk := rmarkw_any (w := wf.drew) (HDF.out.below (Below.refl _ _).drew) (KF.out.below (Below.refl _ _).drew) L.gen (L.used + kk) g3.out (by omega) (by omega)
        rw [HR3.out, Int.natCast_add] at hmk
        have HMK := Lib.hid hmk
        clear hmk d0 d1 d2 d4 d6
        go_wp2_with fail
        go_region_held3 (fun V => V.cell? ⟨x, 3, none⟩ = some (.int .u64 (L.gen : Int)) ∧ V.cell? ⟨x, 5, none⟩ = some (.int .i64 (L.used : Int)))
          (first | exact ⟨d3, d5⟩ | exact ⟨c3, c5⟩)
          (first
            | (go_at_call 108; refine HMK.out.mono ?_; rintro e wg ⟨rfl, fpg, hdg, hlg, hug, hsg⟩; have c3 : wg.cell? ⟨x, 3, none⟩ = some (.int .u64 (L.gen : Int)) := (by have := hlg.cells.2.2.2.1; split at this <;> exact this); have c5 : wg.cell? ⟨x, 5, none⟩ = some (.int .i64 (L.used : Int)) := (by have := hlg.cells.2.2.2.2.2.1; split at this <;> exact this); have HDG := Lib.hid hdg; have HLG := Lib.hid hlg; have HUG := Lib.hid (upd_beside HL.out.blk (by decide) HUF.out (upd_beside KF.out.blk (by decide) (Upd.of_below ((Below.refl wf.heap.size wf).drew)) hug (fun _ h => .inl h)) HSF.out); have HSG := Lib.hid (stays_trans HSF.out HUF.out.size (stays_start ((Below.refl wf.heap.size wf).drew) hsg)); clear hdg hlg hug hsg))
        clear d3 d5
        by_cases h3 : k3 = 0
        · have HR := Lib.hid (HR0.out.trans (if_pos (by rw [HS.out]; exact h3)))
          subst h3
          have hl3 : RWalIn wg x b gv L := by have := HLG.out; rwa [if_pos rfl] at this
          obtain ⟨_, _, _, _, d4, d5, _, df⟩ := hl3.cells
          have df4 := df 4
          have df5 := df 5
          have HL3 := Lib.hid hl3
          clear df hl3 c3 c5
          have HRR : Hid (wappend D L l = (E3, L.grown l kk, 0)) := Lib.hid (by rw [HR.out, HS.out])
          have hu := HL3.out.setUsed (L.used + kk) hkn
          rw [Int.natCast_add] at hu
          have HUS := Lib.hid hu
          have hux : Upd (fun i => i = x) wg (wg.setCell ⟨x, 5, none⟩ (.int .i64 ((L.used : Int) + (kk : Int)))) := (Upd.refl (fun i => i = x) wg).setCell (p := ⟨x, 5, none⟩) (.inl rfl) _
          have HUX := Lib.hid (HUG.out.trans hux (fun i hi => .inl (.inr hi)))
          have HDX := Lib.hid (HDG.out.setX HL3.out hux)
          have HTX := Lib.hid (HX.out.upd HUX.out (fun p hp hne hk => hk.elim (fun h => (HAP.out p hp hne).1 h.1) (HAP.out p hp hne).2))
          have d4u := hu.cells.2.2.2.2.1
          have d4f := hu.cells.2.2.2.2.2.2.2 4
          have hxl := hu.lt x (.inl rfl)
          obtain ⟨cs, hc1, hc2, hc3, hc4⟩ := hu.groups
          obtain ⟨qg, cg, rfl⟩ := slice_len hc1
          have HC1 := Lib.hid hc1; have HC2 := Lib.hid hc2; have HC3 := Lib.hid hc3; have HC4 := Lib.hid hc4
          obtain ⟨i0, hi0, hz0, hz1, hz2⟩ := info_parts rows_info
          have hxf : ∀ V, Below (wg.setCell ⟨x, 5, none⟩ (.int .i64 ((L.used : Int) + (kk : Int)))).heap.size (wg.setCell ⟨x, 5, none⟩ (.int .i64 ((L.used : Int) + (kk : Int)))) V → V.cell? ⟨x, 4, none⟩ = some (.slice qg L.groups.length cg) ∧ V.frozen? ⟨x, 4, none⟩ = false := fun V hb => ⟨(hb.cell (p := ⟨x, 4, none⟩) hxl).trans d4u, (hb.frozen (p := ⟨x, 4, none⟩) hxl).trans d4f⟩
          have HXF := Lib.hid hxf
          clear hu hux hc1 hc2 hc3 hc4 hxf
          go_wp2_with (first
            | (at_builtin
               refine wpList_copy_row rfl (.const (.slice none 0 0)) (.tmp 95) 43 rfl rfl (.slice qg L.groups.length cg) rfl 31 i0 _ 1 24 Try.underlying43 hi0 hz0 hz1 hz2 rfl (by omega) L.groups.length cs HC3.out HC1.out (by unfold maxLen; omega) (by omega) ?_
               intro va wA hA hBA hNA
               obtain ⟨qA, cA, rfl⟩ := slice_len hA
               have HA := Lib.hid hA; have HBA := Lib.hid hBA; have HNA := Lib.hid hNA
               clear hA hBA hNA d4u d4f)
            | (at_builtin
               refine wpList_copy_texts rfl (.const (.slice none 0 0)) (.tmp 97) rfl rfl a cap l rfl (HTX.out.below HBA.out) HCAP.out (by omega) ?_
               intro vb wB hB hBB hNB
               obtain ⟨qB, cB, rfl⟩ := slice_len hB
               have HB := Lib.hid (RowOk.of_row hB); have HBB := Lib.hid (HBA.out.trans (hBB.mono HBA.out.size))
               have HAB := Lib.hid (ownsRow_upd HA.out (Upd.of_below (F := fun _ => False) hBB) (fun _ _ f => f))
               have HSZ := Lib.hid hBB.size
               clear hB hBB hNB)
            | (at_builtin
               refine wpList_append_own_at _ rfl (.tmp 96) (.tmp 99) 43 rfl 0 31 i0 _ 1 24 Try.underlying43 hi0 hz0 hz1 hz2 rfl (by omega) (.slice qA L.groups.length cA) L.groups.length cs rfl (HAB.out.alloc _) ⟨wB.heap.size, 0, none⟩ 1 1 [.slice qB l.length cB] rfl rfl (World.news_of_block (cs := #[.slice qB l.length cB]) (t := 31) (fr := (0, 0)) (heap_alloc_new wB _)) (fun u hu => by rw [List.mem_singleton] at hu; subst hu; exact HB.out.one) (by unfold maxLen; omega) (by omega) (Nat.zero_le _) ?_
               intro vc wC hC hgC _ hatC
               have hnA : ∀ g, (Value.slice qA L.groups.length cA).ownBlock = some g → (wg.setCell ⟨x, 5, none⟩ (.int .i64 ((L.used : Int) + (kk : Int)))).heap.size ≤ g := HNA.out
               have HBC := Lib.hid ((HBB.out.alloc HBB.out.size (.cells #[.slice qB l.length cB] 31)).grown hgC (Nat.le_trans HBB.out.size (by rw [World.size_alloc]; omega)) hnA)
               have HGC := Lib.hid (GroupsAt.pushed (L := L.groups) rfl HAB.out HB.out HC2.out HC3.out (fun i h h' => (HC4.out i h h').upd (Upd.of_below (F := fun _ => False) HBB.out) (fun _ _ f => f)) ((Below.refl wB.heap.size wB).alloc (Nat.le_refl _) _) hgC hC)
               have HNC := Lib.hid (show ∀ g, vc.ownBlock = some g → (wg.setCell ⟨x, 5, none⟩ (.int .i64 ((L.used : Int) + (kk : Int)))).heap.size ≤ g from fun g hg => by
                 rcases hatC with h | h
                 · rw [h] at hg; exact hnA g hg
                 · rw [h] at hg
                   have := Option.some.inj hg
                   rw [World.size_alloc] at this
                   have := HBB.out.size
                   omega)
               obtain ⟨c4c, f4c⟩ := HXF.out _ HBC.out
               obtain ⟨qC, cC, rfl⟩ := slice_len hC
               clear hC hgC hatC hnA))
          go_ret
          have hw5 := HUS.out.below HBC.out
          have hne : (Value.slice qC (L.groups.length + 1) cC).ownBlock ≠ some x := fun e => by have := HNC.out _ e; omega
          have c1 : Upd (fun i => i = x) wC (wC.setCell ⟨x, 4, none⟩ (.slice qC (L.groups.length + 1) cC)) := (Upd.refl (fun i => i = x) wC).setCell (p := ⟨x, 4, none⟩) (.inl rfl) _
          have hwl : w.heap.size ≤ (wg.setCell ⟨x, 5, none⟩ (.int .i64 ((L.used : Int) + (kk : Int)))).heap.size := HUX.out.size
          refine ropPost_of (gv' := .slice qC (L.groups.length + 1) cC) HRR.out rfl ((HDX.out.below HBC.out).setX hw5 c1) (L := L.grown l kk) ?_ ((HUX.out.trans (Upd.of_below (F := fun k => NoStr w fp k ∨ k = x) HBC.out) (fun i hi => .inl hi)).trans c1 (fun i hi => .inl (.inr hi))) HSG.out ?_
          · exact ⟨heap_setCell_same wC x 4 _ _ _ hw5.struct, HGC.out.upd c1 (fun k hk e => by subst e; exact BlkOf.ne hk ⟨_, _, hw5.struct⟩ (by decide) rfl) (fun g hg e => hne (by rw [hg, e])), HUS.out.gen, HUS.out.used, HUS.out.n⟩
          · rintro i (hi | hi)
            · exact .inl (.inl hi)
            · exact .inr (Nat.le_trans hwl (HNC.out _ hi))
        · have hb1 : (k3 == 0) = false := by simp [h3]
          have hb2 : (k3 != 0) = true := by simp [h3]
          have HR : Hid (wappend D L l = (E3, L.fell k3, k3)) := Lib.hid (by rw [HR0.out, HS.out, if_neg h3])
          have HL3 : Hid (RWalIn wg x b gv (L.fell k3)) := Lib.hid (by have := HLG.out; rwa [if_neg h3] at this)
          clear h3 c3 c5
          go_wp2_with fail
          go_ret
          exact ropPost_of HR.out rfl HDG.out HL3.out HUG.out HSG.out (fun _ h => .inl h)
      · have hb1 : (k2 == 0) = false := by simp [h2]
        have hb2 : (k2 != 0) = true := by simp [h2]
        have HR : Hid (wappend D L l = (E2, L.fell k2, k2)) := Lib.hid (by rw [HR0.out, HN2.out h2, if_neg h2])
        have H2 := Lib.hid h2
        clear h2
        go_wp2_with fail
        refine (rfall_any KF.out k2).mono ?_
        rintro e wg ⟨rfl, hlg, hug⟩
        have HLG := Lib.hid hlg; have HUG := Lib.hid hug
        clear hlg hug
        go_wp2_with fail
        go_ret
        exact ropPost_of HR.out rfl (HDF.out.setX KF.out HUG.out) (by have := HLG.out; rwa [WLog.felt_no _ H2.out] at this) (HUF.out.trans HUG.out (fun i hi => .inl (.inr hi))) HSF.out (fun _ h => .inl h)
    · have hb1 : (k1 == 0) = false := by simp [h1]
      have hb2 : (k1 != 0) = true := by simp [h1]
      have HR : Hid (wappend D L l = (E1, L.fell k1, k1)) := Lib.hid (by rw [HR0.out, HENDS.out.1 h1, if_neg h1])
      have H1 := Lib.hid h1
      clear h1
      go_wp2_with fail
      refine (rfall_any KA.out k1).mono ?_
      rintro e wg ⟨rfl, hlg, hug⟩
      have HLG := Lib.hid hlg; have HUG := Lib.hid hug
      clear hlg hug
      go_wp2_with fail
      go_ret
      exact ropPost_of HR.out rfl (HDA.out.setX KA.out HUG.out) (by have := HLG.out; rwa [WLog.felt_no _ H1.out] at this) (HUA.out.trans HUG.out (fun i hi => .inl (.inr hi))) HSA.out (fun _ h => .inl h)
/-- Append. -/
theorem rappend_any (hd : RefAt w b D fp) (hl : RWalIn w x b gv L) (hx : TextsAt w a l) (hap : ∀ p, a = some p → l ≠ [] → ¬ fp p.block ∧ p.block ≠ x) (hcap : a = none → cap = 0) (hlen : l.length ≤ 1000000) (hsum : rowLen l ≤ 1000000) (hloose : D.loose.length ≤ 300000000) (hgl : L.groups.length ≤ 1000000) :
    Calls Try.prog 94 #[.pointer (some ⟨x, 0, none⟩), .slice a l.length cap] w fun e w' => ROpPost w x b gv fp (wappend D L l) e w' := by
  by_cases hf : L.fault = 0
  · cases hg : groupE l with
    | none => exact rappend_early hd hl hx (by unfold maxLen; omega) hsum (.inr hg)
    | some s => exact rappend_in hd hl hx hap hcap hlen hsum hf hg hloose hgl
  · exact rappend_early hd hl hx (by unfold maxLen; omega) hsum (.inl hf)
end
end Go.Proofs.Ythbdflmckfgleaa
