/- FilRead2 -/
import Derived.Test.YtoaihngckcbhiaaGreatDoorPkFilMade2
import Derived.Laws.Cover1
import Derived.Sort.Walk0
import Derived.Deep.RegionHeld3
namespace Go.Proofs.YtoaihngckcbhiaaGreatDoor
open Go.RowKit Go.Maps Go.Sort
open Fil
theorem put_last {F : M} {k v : T} (h : ∀ p ∈ F, p.1 < k) : put k v F = F ++ [(k, v)] := by
  unfold put
  rw [filter_all (fun p hp => by simpa using h p hp), filter_none (fun p hp => by simpa using List.not_lt.1 (lt_asym (h p hp)))]
def lastN (F : M) : Option T := F.getLast?.map (·.1)
theorem lastN_snoc (F : M) (k v : T) : lastN (F ++ [(k, v)]) = some k := by unfold lastN; simp
theorem up_last {F : M} (h : Up F) {x : T} (hx : lastN F = some x) : ∀ p ∈ F, p.1 = x ∨ p.1 < x := by
  unfold lastN at hx
  obtain ⟨q, hq, rfl⟩ := Option.map_eq_some_iff.1 hx
  obtain ⟨G, rfl⟩ := List.getLast?_eq_some_iff.1 hq
  intro p hp
  rcases List.mem_append.1 hp with hp | hp
  · exact .inr ((List.pairwise_append.1 h).2.2 p hp q (by simp))
  · rw [List.mem_singleton] at hp; subst hp; exact .inl rfl
theorem up_next {F : M} (h : Up F) {k : T} (hn : mayNext (lastN F) k = true) : ∀ p ∈ F, p.1 < k := by
  intro p hp
  cases hl : lastN F with
  | none =>
    unfold lastN at hl
    rw [Option.map_eq_none_iff, List.getLast?_eq_none_iff] at hl
    subst hl
    simp at hp
  | some x =>
    rw [hl] at hn
    have hx : x < k := by simpa [mayNext] using hn
    rcases up_last h hl p hp with e | e
    · rw [e]; exact hx
    · exact lt_tr e hx
theorem up_snoc {F : M} (h : Up F) {k v : T} (hn : ∀ p ∈ F, p.1 < k) : Up (F ++ [(k, v)]) := List.pairwise_append.2 ⟨h, List.pairwise_singleton _ _, fun a ha b hb => by rw [List.mem_singleton] at hb; subst hb; exact hn a ha⟩
structure Reading (n : Nat) (s : T) (j : Nat) (F : M) (S : T) : Prop where
  up : Up F
  len : F.length = j
  rest : S.length + 8 * j ≤ s.length
  eq : readE n none s = (readE (n - j) (lastN F) S).map fun r => (F ++ r.1, r.2)
theorem Reading.start (n : Nat) (s : T) : Reading n s 0 [] s := ⟨Up.nil, rfl, by omega, by rw [Nat.sub_zero]; show _ = (readE n none s).map _; cases readE n none s <;> rfl⟩
section
variable {n j : Nat} {s S : T} {F : M}
theorem Reading.stuck1 (h : Reading n s j F S) (hj : j < n) (hc : cut S = none) : readE n none s = none := by
  rw [h.eq, show n - j = (n - j - 1) + 1 by omega]
  simp only [readE, hc]
  rfl
theorem Reading.stuck2 (h : Reading n s j F S) (hj : j < n) {a r : T} (hc : cut S = some (a, r)) (hd : cut r = none) : readE n none s = none := by
  rw [h.eq, show n - j = (n - j - 1) + 1 by omega]
  simp only [readE, hc, Option.bind_some, hd]
  rfl
theorem Reading.stuck3 (h : Reading n s j F S) (hj : j < n) {a r d r2 : T} (hc : cut S = some (a, r)) (hd : cut r = some (d, r2)) (hm : ¬ (mayB a d = true ∧ mayNext (lastN F) a = true)) : readE n none s = none := by
  rw [h.eq, show n - j = (n - j - 1) + 1 by omega]
  simp only [readE, hc, Option.bind_some, hd]
  rw [if_neg hm]
  rfl
theorem Reading.step (h : Reading n s j F S) (hj : j < n) {a r d r2 : T} (hc : cut S = some (a, r)) (hd : cut r = some (d, r2)) (h1 : mayB a d = true) (h2 : mayNext (lastN F) a = true) : Reading n s (j + 1) (put a d F) r2 := by
  have hlt := up_next h.up h2
  rw [put_last hlt]
  refine ⟨up_snoc h.up hlt, by rw [List.length_append, h.len]; rfl, ?_, ?_⟩
  · have a1 := cut_some hc; have a2 := cut_some hd; have a3 := h.rest; omega
  · rw [h.eq, show n - j = (n - j - 1) + 1 by omega]
    simp only [readE, hc, Option.bind_some, hd]
    rw [if_pos ⟨h1, h2⟩, lastN_snoc, Option.map_map, show n - (j + 1) = n - j - 1 by omega]
    congr 1
    funext q
    simp
theorem Reading.done (h : Reading n s n F S) : readE n none s = some (F, S) := by
  rw [h.eq, Nat.sub_self]
  simp [readE]
end
def Stop (p : Prop) : Prop := p
def ReadPost (w : World) (s : T) (e : Ending) (w' : World) : Prop :=
  match Fil.read s with
  | none => (∃ o, e = .returned (.tuple #[.map o, .bool false])) ∧ Below w.heap.size w w'
  | some F => ∃ m, e = .returned (.tuple #[.map (some m), .bool true]) ∧ FilMap w' m F ∧ Below w.heap.size w w' ∧ w.heap.size ≤ m
theorem readPost_none {w w' : World} {s : T} {e : Ending} {o : Option Nat} (h : Fil.read s = none) (he : e = .returned (.tuple #[.map o, .bool false])) (hb : Below w.heap.size w w') : ReadPost w s e w' := by
  unfold ReadPost; rw [h]; exact ⟨⟨o, he⟩, hb⟩
theorem readPost_some {w w' : World} {s : T} {F : M} {e : Ending} {m : Nat} (h : Fil.read s = some F) (he : e = .returned (.tuple #[.map (some m), .bool true])) (hm : FilMap w' m F) (hb : Below w.heap.size w w') (hn : w.heap.size ≤ m) : ReadPost w s e w' := by
  unfold ReadPost; rw [h]; exact ⟨m, he, hm, hb, hn⟩
theorem ownsRow_base {w : World} {base e s : Nat} {v : Value} {n : Nat} {xs : List Value} (h : w.ownsRow base e s v n xs) {g : Nat} (hg : v.ownBlock = some g) : base ≤ g := by
  rcases h.2 with ⟨rfl, _⟩ | ⟨g', cap, cur, rfl, hb, _⟩
  · simp [Value.ownBlock] at hg
  · simp [Value.ownBlock] at hg
    omega
theorem read_kept {w w' : World} {m base n : Nat} {F : M} {v : Value} {xs : List Value} {t : TypeId} {o : Obj} (hm : FilMap (w.alloc o) m F) (hr : w.ownsRow base t 1 v n xs) (hg : (w.alloc o).grownBy w' v.ownBlock) : FilMap w' m F :=
  hm.kept (hg.block m hm.lt (fun e => by
    have hb := (ownsRow_blk hr e.symm).upd (Upd.of_below (F := fun _ => False) ((Below.refl w.heap.size w).alloc (Nat.le_refl _) o)) (fun f => f)
    exact hm.noBlk hb))
set_option maxRecDepth 100000 in
set_option maxHeartbeats 2000000 in
theorem fread_any (s : T) (w : World) (hs : s.length ≤ 1000000) :
    Calls Tryz.prog 65 #[.string (bs s)] w fun e w' => ReadPost w s e w' := by
  by_cases h0 : s.length < 4
  · have HN : Hid (Fil.read s = none) := Lib.hid (by unfold Fil.read; rw [if_pos h0])
    go_enter Tryz.func65, Tryz.ntmps65
    go_wp2_with fail
    go_ret2
    exact readPost_none HN.out rfl (Below.refl _ _)
  · have hc4 : ∀ W, (Instr.slice 9 (.string (bs s)) none (some (.int .i64 4)) none).run Tryz.prog W = .ok (.string (bs (s.take 4))) W := fun W => run_cut_to Tryz.prog W 9 Tryz.underlying9 s 4 (by omega)
    have hcf : ∀ W, (Instr.slice 9 (.string (bs s)) (some (.int .i64 4)) none none).run Tryz.prog W = .ok (.string (bs (s.drop 4))) W := fun W => run_cut_from Tryz.prog W 9 Tryz.underlying9 s 4 (by omega)
    have hl4 : (s.take 4).length = 4 := by rw [List.length_take]; omega
    have hv := Crc.val_lt (s.take 4)
    rw [hl4] at hv
    have HGET := Lib.hid (fun (W : World) => get_any (s.take 4) W (by omega) (by omega))
    have hRD : Fil.read s = (readE (Crc.val (s.take 4)) none (s.drop 4)).bind fun r => if r.2 = [] then some r.1 else none := by unfold Fil.read; rw [if_neg h0]
    generalize Crc.val (s.take 4) = v at *
    have hv32 : v < 4294967296 := hv
    obtain ⟨S0, hS0⟩ : ∃ S0, s.drop 4 = S0 := ⟨_, rfl⟩
    rw [hS0] at hcf hRD
    have HRD := Lib.hid hRD
    have HSL := Lib.hid (show S0.length ≤ 1000000 by rw [← hS0, List.length_drop]; omega)
    clear hl4 hv hRD hS0
    have hmm := @run_makeMap Tryz.prog
    have hb0 : Below w.heap.size w ((w.alloc (.map #[] 0)).alloc (.cells #[] 9)) := ((Below.refl _ _).alloc (Nat.le_refl _) _).alloc (by simp) _
    have hM0 : FilMap ((w.alloc (.map #[] 0)).alloc (.cells #[] 9)) w.heap.size [] := (FilMap.made w).below ((Below.refl _ _).alloc (Nat.le_refl _) _)
    have hR0 : ((w.alloc (.map #[] 0)).alloc (.cells #[] 9)).ownsRow w.heap.size 9 1 (.slice (some ⟨w.heap.size + 1, 0, none⟩) 0 0) 0 [] :=
      ⟨rfl, .inr ⟨w.heap.size + 1, 0, #[], rfl, by omega, by have := heap_alloc_new (w.alloc (.map #[] 0)) (.cells #[] 9); rwa [World.size_alloc] at this, Nat.le_refl _, Nat.zero_le _, rfl, rfl⟩⟩
    have HB0 := Lib.hid hb0; have HM0 := Lib.hid hM0; have HR0 := Lib.hid hR0
    clear hb0 hM0 hR0
    go_enter Tryz.func65, Tryz.ntmps65
    go_wp2_with fail
    refine (HGET.out _).mono ?_
    rintro e w1 ⟨rfl, rfl⟩
    go_wp2_with fail
    go_loopw [0, 7, 26] (fun s0 lv i wr => ∃ (j : Nat) (F : M) (S : T) (q : Option Addr) (c : Nat), j ≤ v ∧ s0 = .string (bs S) ∧ lv = .slice q F.length c ∧ i = .int .u64 j ∧ Reading v S0 j F S ∧ FilMap wr w.heap.size F ∧ wr.ownsRow w.heap.size 9 1 (.slice q F.length c) F.length (strCells (F.map (·.1))) ∧ Below w.heap.size w wr) (fun _ _ i _ => v - (intOf i).toNat)
    case atStart => exact ⟨0, [], S0, _, _, Nat.zero_le _, rfl, rfl, rfl, Reading.start _ _, HM0.out, by rw [List.map_nil, strCells_nil]; exact HR0.out, HB0.out⟩
    case round =>
      obtain ⟨j, F, S, q, c, hjv, rfl, rfl, rfl, hrd, hm, hrow, hb⟩ := hrel
      have hSl : S.length ≤ 1000000 := by have := hrd.rest; have := HSL.out; omega
      have hjb : 8 * j ≤ 1000000 := by have := hrd.rest; have := HSL.out; omega
      have HRDG := Lib.hid hrd; have HM := Lib.hid hm; have HR := Lib.hid hrow; have HB := Lib.hid hb
      have hFl := hrd.len
      have HFL := Lib.hid hFl
      clear hrd hm hrow hb HM0 HR0 HB0 hFl hmm
      by_cases hj : j < v
      · cases hc : cut S with
        | none =>
          have HN : Hid (Fil.read s = none) := Lib.hid (by rw [HRD.out, HRDG.out.stuck1 hj hc]; rfl)
          have HCC := Lib.hid hc
          clear hc
          go_wp2_with fail
          refine (fcut_none HCC.out _ (by omega)).mono ?_
          rintro e w2 ⟨rfl, rfl⟩
          go_wp2_with fail
          go_ret2
          exact readPost_none HN.out rfl HB.out
        | some ar =>
          obtain ⟨a, r⟩ := ar
          have hcl := cut_some hc
          have HCC := Lib.hid hc
          clear hc
          cases hd : cut r with
          | none =>
            have HN : Hid (Fil.read s = none) := Lib.hid (by rw [HRD.out, HRDG.out.stuck2 hj HCC.out hd]; rfl)
            have HDD := Lib.hid hd
            clear hd
            go_wp2_with fail
            refine (fcut_some HCC.out _ (by omega)).mono ?_
            rintro e w2 ⟨rfl, hb2⟩
            have HB2 := Lib.hid (HB.out.trans (hb2.mono HB.out.size))
            clear hb2
            go_wp2_with fail
            refine (fcut_none HDD.out _ (by omega)).mono ?_
            rintro e w3 ⟨rfl, rfl⟩
            go_wp2_with fail
            go_ret2
            exact readPost_none HN.out rfl HB2.out
          | some dr =>
            obtain ⟨d, r2⟩ := dr
            have hdl := cut_some hd
            have HDD := Lib.hid hd
            clear hd
            go_wp2_with fail
            refine (fcut_some HCC.out _ (by omega)).mono ?_
            rintro e w2 ⟨rfl, hb2⟩
            have HB2 := Lib.hid hb2
            clear hb2
            go_wp2_with fail
            refine (fcut_some HDD.out _ (by omega)).mono ?_
            rintro e w3 ⟨rfl, hb3⟩
            have HB3 := Lib.hid (HB2.out.trans (hb3.mono HB2.out.size))
            clear hb3 HB2
            go_wp2_with fail
            refine (fmay_any a d false _ (by unfold maxLen; omega) (by unfold maxLen; omega)).mono ?_
            rw [show Chg.may ⟨a, d, false⟩ = mayB a d by unfold Chg.may; simp]
            rintro e w4 ⟨rfl, hb4⟩
            have HB4 := Lib.hid (HB3.out.trans (hb4.mono HB3.out.size))
            clear hb4 HB3
            cases hmv : mayB a d with
            | false =>
              have HN : Hid (Fil.read s = none) := Lib.hid (by rw [HRD.out, HRDG.out.stuck3 hj HCC.out HDD.out (fun h => by rw [hmv] at h; cases h.1)]; rfl)
              clear hmv
              go_wp2_with fail
              go_ret2
              exact readPost_none HN.out rfl (HB.out.trans (HB4.out.mono HB.out.size))
            | true =>
              have HMV := Lib.hid hmv
              have hal : a.length ≤ 32 := by unfold mayB at hmv; simp at hmv; exact hmv.2.1
              have HM4 := Lib.hid (HM.out.below HB4.out)
              have HR4 := Lib.hid (ownsRow_upd HR.out (Upd.of_below (F := fun _ => False) HB4.out) (fun _ _ f => f))
              clear hmv
              rcases List.eq_nil_or_concat F with hF | ⟨G, ⟨x, y⟩, hF⟩
              · subst hF
                have hnext : mayNext (lastN ([] : M)) a = true := rfl
                have HRS := Lib.hid (HRDG.out.step hj HCC.out HDD.out HMV.out hnext)
                have HPUT := Lib.hid (put_last (v := d) (up_next HRDG.out.up hnext))
                have hszw := HB.out.size
                have hsz4 := HB4.out.size
                have hFb : ([] : M).length ≤ 1000000 := by have := HFL.out; omega
                have HMR := Lib.hid (HM4.out.below ((Below.refl w4.heap.size w4).alloc (Nat.le_refl _) (.cells #[.string (bs a)] 9)))
                clear hnext
                obtain ⟨i0, hi0, hz0, hz1, hz2⟩ := info_parts str_info3
                go_wp2_with (at_builtin; refine wpList_append_own_at _ rfl _ _ 30 rfl w.heap.size 9 i0 _ 1 16 Tryz.underlying30 hi0 hz0 hz1 hz2 rfl (by decide) _ ([] : M).length _ rfl (HR4.out.alloc _) ⟨w4.heap.size, 0, none⟩ 1 1 [.string (bs a)] rfl rfl (cell_one_new _ _ _) (by simp [Value.oneCell']) (by unfold maxLen; omega) (by omega) (by simp; omega) ?_; intro v' w5 hown' hgrow _ hat; obtain ⟨g', cap', rfl⟩ := ownsRow_succ hown'; have HM5 := Lib.hid (read_kept HMR.out HR4.out hgrow); obtain ⟨w6, hu1, hu2, hu3⟩ := HM5.out.update a d (by unfold maxLen; omega) (by unfold maxLen; omega); have HO := Lib.hid hown'; have HG := Lib.hid hgrow; have HU2 := Lib.hid hu2; have HU3 := Lib.hid hu3; clear hown' hgrow hat hu2 hu3)
                have hne : ∀ k, (Value.slice (some ⟨g', 0, none⟩) (([] : M).length + 1) cap').ownBlock = some k → ¬ k = w.heap.size := fun k hk e => by
                  subst e
                  exact HM5.out.noBlk (ownsRow_blk HO.out hk)
                have hrow6 := ownsRow_upd HO.out (Upd.of_grownBy (F := fun k => k = w.heap.size) HU3.out (fun k e => by cases e; rfl)) hne
                have hb6 : Below w.heap.size w w6 := ((HB.out.trans ((HB4.out.alloc HB4.out.size _).mono HB.out.size)).grown HG.out (by simp; omega) (fun j hj => ownsRow_base HR4.out (show (Value.slice q ([] : M).length c).ownBlock = some j from hj))).grown HU3.out (by have := HG.out.size; simp at this; omega) (fun j hj => by cases hj; exact Nat.le_refl _)
                go_roundw
                case rel =>
                  refine ⟨j + 1, _, _, _, _, by omega, rfl, by rw [HPUT.out, List.length_append]; rfl, by simp, HRS.out, HU2.out, ?_, hb6⟩
                  rw [HPUT.out, List.length_append, List.map_append]
                  show World.ownsRow _ _ _ _ _ (([] : M).length + 1) (strCells (([] : M).map (·.1) ++ [a]))
                  rw [strCells_snoc]
                  exact hrow6
                case measure => simp [intOf]; omega
              · subst hF
                obtain ⟨g, rfl⟩ : ∃ g, q = some ⟨g, 0, none⟩ := by
                  rcases HR.out.2 with ⟨e1, e2⟩ | ⟨g, cap, _, e1, _⟩
                  · simp at e2
                  · exact ⟨g, by injection e1⟩
                have hcell : w4.cell? ⟨g, G.length, none⟩ = some (.string (bs x)) := by
                  have := HR4.out.cells (g := g) rfl G.length (.string (bs x)) (by rw [List.concat_eq_append, List.map_append, List.map_cons, List.map_nil, strCells_snoc, List.getElem?_append_right (by rw [strCells_length]; simp), strCells_length]; simp)
                  rw [add_plain] at this
                  exact this
                have hGl : (G.concat (x, y)).length = G.length + 1 := by simp
                have hix : ∀ W, (Instr.indexAt 30 (.slice (some ⟨g, 0, none⟩) (G.length + 1) c) (.int .i64 (G.length : Int))).run Tryz.prog W = .ok (.pointer (some ⟨g, G.length, none⟩)) W := fun W => by
                  have := run_index_slice Tryz.prog 30 9 Tryz.underlying30 1 (by kernel_rfl) ⟨g, 0, none⟩ (G.length + 1) c G.length (by omega) W
                  rw [Nat.mul_one, add_plain] at this
                  exact this
                have hGb : G.length + 1 ≤ 1000000 := by have := HFL.out; rw [hGl] at this; omega
                have hlast : lastN (G.concat (x, y)) = some x := by rw [List.concat_eq_append]; exact lastN_snoc G x y
                by_cases hxa : x < a
                · have hbl : Op.bytesLess x a = true := by rw [bytesLess_eq]; simpa using hxa
                  have hnext : mayNext (lastN (G.concat (x, y))) a = true := by rw [hlast]; simpa [mayNext] using hxa
                  clear hxa hlast
                  have HRS := Lib.hid (HRDG.out.step hj HCC.out HDD.out HMV.out hnext)
                  have HPUT := Lib.hid (put_last (v := d) (up_next HRDG.out.up hnext))
                  have hszw := HB.out.size
                  have hsz4 := HB4.out.size
                  have hFb : (G.concat (x, y)).length ≤ 1000000 := by have := HFL.out; omega
                  have HMR := Lib.hid (HM4.out.below ((Below.refl w4.heap.size w4).alloc (Nat.le_refl _) (.cells #[.string (bs a)] 9)))
                  clear hnext
                  obtain ⟨i0, hi0, hz0, hz1, hz2⟩ := info_parts str_info3
                  have HR5 : Hid (w4.ownsRow w.heap.size 9 1 (.slice (some ⟨g, 0, none⟩) (G.length + 1) c) (G.length + 1) (strCells ((G.concat (x, y)).map (·.1)))) := Lib.hid (by rw [← hGl]; exact HR4.out)
                  go_wp2_with (at_builtin; refine wpList_append_own_at _ rfl _ _ 30 rfl w.heap.size 9 i0 _ 1 16 Tryz.underlying30 hi0 hz0 hz1 hz2 rfl (by decide) _ (G.length + 1) _ rfl (HR5.out.alloc _) ⟨w4.heap.size, 0, none⟩ 1 1 [.string (bs a)] rfl rfl (cell_one_new _ _ _) (by simp [Value.oneCell']) (by unfold maxLen; omega) (by omega) (by simp; omega) ?_; intro v' w5 hown' hgrow _ hat; obtain ⟨g', cap', rfl⟩ := ownsRow_succ hown'; have HM5 := Lib.hid (read_kept HMR.out HR5.out hgrow); obtain ⟨w6, hu1, hu2, hu3⟩ := HM5.out.update a d (by unfold maxLen; omega) (by unfold maxLen; omega); have HO := Lib.hid hown'; have HG := Lib.hid hgrow; have HU2 := Lib.hid hu2; have HU3 := Lib.hid hu3; clear hown' hgrow hat hu2 hu3)
                  have hne : ∀ k, (Value.slice (some ⟨g', 0, none⟩) (G.length + 1 + 1) cap').ownBlock = some k → ¬ k = w.heap.size := fun k hk e => by
                    subst e
                    exact HM5.out.noBlk (ownsRow_blk HO.out hk)
                  have hrow6 := ownsRow_upd HO.out (Upd.of_grownBy (F := fun k => k = w.heap.size) HU3.out (fun k e => by cases e; rfl)) hne
                  have hb6 : Below w.heap.size w w6 := ((HB.out.trans ((HB4.out.alloc HB4.out.size _).mono HB.out.size)).grown HG.out (by simp; omega) (fun j hj => ownsRow_base HR5.out (show (Value.slice (some ⟨g, 0, none⟩) (G.length + 1) c).ownBlock = some j from hj))).grown HU3.out (by have := HG.out.size; simp at this; omega) (fun j hj => by cases hj; exact Nat.le_refl _)
                  go_roundw
                  case rel =>
                    refine ⟨j + 1, _, _, _, _, by omega, rfl, by rw [HPUT.out, List.length_append, hGl]; rfl, by simp, HRS.out, HU2.out, ?_, hb6⟩
                    rw [HPUT.out, List.length_append, hGl, List.map_append]
                    show World.ownsRow _ _ _ _ _ (G.length + 1 + 1) (strCells ((G.concat (x, y)).map (·.1) ++ [a]))
                    rw [strCells_snoc]
                    exact hrow6
                  case measure => simp [intOf]; omega
                · have hbl : Op.bytesLess x a = false := by rw [bytesLess_eq]; simpa using hxa
                  have HN : Hid (Fil.read s = none) := Lib.hid (by
                    rw [HRD.out, HRDG.out.stuck3 hj HCC.out HDD.out (fun h => by have h2 := h.2; rw [hlast] at h2; exact hxa (by simpa [mayNext] using h2))]; rfl)
                  clear hxa hlast
                  go_wp2_with fail
                  go_ret2
                  exact readPost_none HN.out rfl (HB.out.trans (HB4.out.mono HB.out.size))
      · obtain rfl : j = v := by omega
        have hdone := HRDG.out.done
        cases S with
        | nil =>
          have HF : Hid (Fil.read s = some F) := Lib.hid (by rw [HRD.out, hdone]; rfl)
          clear hdone
          go_wp2_with fail
          go_ret2
          exact readPost_some HF.out rfl HM.out HB.out (Nat.le_refl _)
        | cons u S =>
          have HN : Hid (Fil.read s = none) := Lib.hid (by rw [HRD.out, hdone]; rfl)
          clear hdone
          go_wp2_with fail
          go_ret2
          exact readPost_none HN.out rfl HB.out
end Go.Proofs.YtoaihngckcbhiaaGreatDoor
namespace Go.Proofs.YtoaihngckcbhiaaGreatDoor
open Go.RowKit Go.Maps Go.Sort
open Fil
def rawRow (log size area b : Nat) (mv : Option Nat) (xv : Option Addr) : Array Value := #[.pointer (some ⟨b, 0, none⟩), .int .i64 (log : Int), .int .i64 (size : Int), .int .i64 (area : Int), .map mv, .pointer xv, .int .i64 0]
theorem raw_cells {w : World} {y log size area b : Nat} {mv : Option Nat} {xv : Option Addr} (h : w.heap[y]? = some (.cells (rawRow log size area b mv xv) 68)) :
    w.cell? ⟨y, 0, none⟩ = some (.pointer (some ⟨b, 0, none⟩)) ∧ w.cell? ⟨y, 1, none⟩ = some (.int .i64 (log : Int)) ∧ w.cell? ⟨y, 2, none⟩ = some (.int .i64 (size : Int)) ∧ w.cell? ⟨y, 3, none⟩ = some (.int .i64 (area : Int)) ∧
    w.cell? ⟨y, 4, none⟩ = some (.map mv) ∧ w.cell? ⟨y, 5, none⟩ = some (.pointer xv) ∧ w.cell? ⟨y, 6, none⟩ = some (.int .i64 0) ∧ ∀ j, w.frozen? ⟨y, j, none⟩ = false := by
  refine ⟨?_, ?_, ?_, ?_, ?_, ?_, ?_, fun j => frozen_of_row w y j _ _ h⟩ <;> rw [cell_of_row w y _ _ _ _ h] <;> rfl
def LoadPost (w : World) (y log size b a num : Nat) (A : M) (e : Ending) (w' : World) : Prop :=
  ∃ mb, e = .returned (.tuple #[.int .u64 (num : Int), .int .i64 0]) ∧ w'.heap[y]? = some (.cells (rawRow log size a b (some mb) none) 68) ∧ FilMap w' mb A ∧ Upd (fun k => k = y) w w' ∧ w.heap.size ≤ mb
set_option maxRecDepth 100000 in
set_option maxHeartbeats 2000000 in
theorem fload_zero {w : World} {y log size b : Nat} {D : Dsk} {fp : Nat → Prop} (hd : DiskAt w b D fp) (hy : w.heap[y]? = some (.cells (rawRow log size 0 b none none) 68)) (hup : D.down = false) (h0 : D.now 0 = Wal.pad [0]) :
    Calls Tryz.prog 27 #[.pointer (some ⟨y, 0, none⟩)] w fun e w' => LoadPost w y log size b 0 0 [] e w' := by
  have hylt := blk_lt hy
  have hfine := hd.fine
  obtain ⟨c0, _⟩ := raw_cells hy
  obtain ⟨m, lv, hI, _⟩ := hd
  have HRD := Lib.hid (read_in hI 0 1 hup (by simp [Dsk.inside]; have := hfine.n1; omega))
  have e1 : Dsk.text D.now 0 1 = Wal.pad [0] := by show D.now 0 ++ [] = _; rw [h0, List.append_nil]
  rw [e1] at HRD
  have HY := Lib.hid hy
  have hmm := @run_makeMap Tryz.prog
  have hz0 : ({ data := #[0] } : ByteArray) = bs [0] := rfl
  clear hI hy hfine h0 e1
  go_enter Tryz.func27, Tryz.ntmps27
  go_wp2_with fail
  refine HRD.out.mono ?_
  rintro e w1 ⟨rfl, hb⟩
  have HY1 := Lib.hid ((hb.block y hylt).trans HY.out)
  obtain ⟨_, _, _, _, d4, _, _, df⟩ := raw_cells HY1.out
  have df4 := df 4
  have hy1 := blk_lt HY1.out
  have HB := Lib.hid hb
  clear hb df
  go_wp2_with fail
  have hss : (w1.setCell ⟨y, 4, none⟩ (.map (some w1.heap.size))).heap.size = w1.heap.size := by simp [World.setCell]
  have hs0 := heap_setCell_same w1 y 4 _ _ (.map (some w1.heap.size)) HY1.out
  have hu0 : Upd (fun k => k = y) w (w1.setCell ⟨y, 4, none⟩ (.map (some w1.heap.size))) := (Upd.of_below (F := fun k => k = y) HB.out).setCell (p := ⟨y, 4, none⟩) (.inl rfl) _
  have hm0 := FilMap.made (w1.setCell ⟨y, 4, none⟩ (.map (some w1.heap.size)))
  rw [hss] at hm0
  have HM1 := Lib.hid hm0
  have HS1 := Lib.hid (((Below.refl _ (w1.setCell ⟨y, 4, none⟩ (.map (some w1.heap.size)))).alloc (Nat.le_refl _) (.map #[] 0)).block y (by rw [hss]; exact hy1) |>.trans hs0)
  have HU1 := Lib.hid (hu0.alloc (.map #[] 0))
  clear hm0 hs0 hu0 d4 df4 hss
  refine (fwhole_any [0] _ (by simp)).mono ?_
  rintro e w2 ⟨rfl, hb2⟩
  have HB2 := Lib.hid hb2
  clear hb2
  go_wp2_with fail
  go_ret2
  refine ⟨w1.heap.size, rfl, (HB2.out.block y (by simp; omega)).trans HS1.out, HM1.out.below HB2.out, HU1.out.trans (Upd.of_below (F := fun k => k = y) HB2.out) (fun i hi => .inl hi), HB.out.size⟩
set_option maxRecDepth 100000 in
set_option maxHeartbeats 4000000 in
theorem fload_mark {w : World} {y log size b : Nat} {D : Dsk} {fp : Nat → Prop} (hd : DiskAt w b D fp) (hy : w.heap[y]? = some (.cells (rawRow log size 0 b none none) 68)) (hup : D.down = false) {a num : Nat} {A : M} {t r : T} (ha : a ≤ 1) (hnum : num < 18446744073709551616) (h0 : D.now 0 = Fil.mark a num)
    (hlog : log ≤ 16384) (hsize : size ≤ 8192) (hfit : begin_ log size a + size ≤ D.n) (hcut : cut (Dsk.text D.now (begin_ log size a) size) = some (t, r)) (hread : Fil.read t = some A) :
    Calls Tryz.prog 27 #[.pointer (some ⟨y, 0, none⟩)] w fun e w' => LoadPost w y log size b a num A e w' := by
  have hylt := blk_lt hy
  have hfine := hd.fine
  obtain ⟨c0, _⟩ := raw_cells hy
  have HDA := Lib.hid hd
  obtain ⟨m, lv, hI, _⟩ := hd
  have HRD := Lib.hid (read_in hI 0 1 hup (by simp [Dsk.inside]; have := hfine.n1; omega))
  have e1 : Dsk.text D.now 0 1 = Fil.mark a num := by show D.now 0 ++ [] = _; rw [h0, List.append_nil]
  rw [e1] at HRD
  have HY := Lib.hid hy
  have hmm := @run_makeMap Tryz.prog
  have hz0 : ({ data := #[0] } : ByteArray) = bs [0] := rfl
  have hml := Fil.mark_length a num
  have hm4 := Fil.mark_area a num ha
  have hmn := Fil.mark_num a num hnum
  have hne : (Fil.mark a num == Wal.pad [0]) = false := by simpa using Fil.mark_ne a num
  have hcut5 : ∀ W, (Instr.slice 9 (.string (bs (Fil.mark a num))) (some (.int .i64 5)) (some (.int .i64 13)) none).run Tryz.prog W = .ok (.string (bs (((Fil.mark a num).take 13).drop 5))) W := fun W => run_cut Tryz.prog W 9 Tryz.underlying9 (Fil.mark a num) 5 13 (by omega) (by omega)
  have h5l : (((Fil.mark a num).take 13).drop 5).length = 8 := by rw [List.length_drop, List.length_take]; omega
  have HGET := Lib.hid (fun (W : World) => get_any (((Fil.mark a num).take 13).drop 5) W (by omega) (by omega))
  rw [hmn] at HGET
  have hidx : ∀ W, (Instr.index 9 (.string (bs (Fil.mark a num))) (.int .i64 4)).run Tryz.prog W = .ok (.int .u8 (a : Int)) W := fun W => by
    have h4 : 4 < (Fil.mark a num).length := by omega
    have e4 : (Fil.mark a num)[4].toNat = a := by
      have := hm4.2
      rwa [List.getD_eq_getElem?_getD, List.getElem?_eq_getElem h4, Option.getD_some] at this
    rw [run_index_string W 9 (bs (Fil.mark a num)) .i64 4 Tryz.underlying9, dif_pos ⟨by omega, by simp; omega⟩]
    show Result.ok (Value.int .u8 (((Fil.mark a num)[4]'h4).toNat : Nat)) W = _
    rw [e4]
  have HMK := Lib.hid (fun (W : World) => fmarked_any a num W ha hnum)
  have hab : (a : Int) ≤ 1 := by omega
  have HN := Lib.hid hnum; have HML := Lib.hid hml
  have HCT := Lib.hid hcut; have HRE := Lib.hid hread
  generalize Fil.mark a num = F0 at *
  generalize ((F0.take 13).drop 5) = F5 at *
  have hins : D.inside (begin_ log size a) size = true := by simp [Dsk.inside]; omega
  have HRD2 := Lib.hid (fun (V : World) (h : DiskAt V b D fp) => (by obtain ⟨m2, lv2, hI2, _⟩ := h; exact read_in hI2 (begin_ log size a) size hup hins : Calls Tryz.prog 59 #[.pointer (some ⟨b, 0, none⟩), .int .i64 ((begin_ log size a : Nat) : Int), .int .i64 (size : Int)] V fun e w' => e = .returned (.tuple #[.string (bs (Dsk.text D.now (begin_ log size a) size)), .int .i64 0]) ∧ Below V.heap.size V w'))
  have htl : (Dsk.text D.now (begin_ log size a) size).length ≤ 524288 := by rw [Dsk.text_length hfine.now _ _ hfit]; omega
  have HCUT := Lib.hid (fun (V : World) => fcut_some hcut V (by omega))
  have HREAD := Lib.hid (fun (V : World) => (by have := fread_any t V (by have := cut_some hcut; omega); unfold ReadPost at this; rw [hread] at this; exact this : Calls Tryz.prog 65 #[.string (bs t)] V fun e w' => ∃ m, e = .returned (.tuple #[.map (some m), .bool true]) ∧ FilMap w' m A ∧ Below V.heap.size V w' ∧ V.heap.size ≤ m))
  clear htl hins
  clear hI hy hfine h0 e1 hm4 hmn h5l hcut hread hnum hml
  go_enter Tryz.func27, Tryz.ntmps27
  go_wp2_with fail
  refine HRD.out.mono ?_
  rintro e w1 ⟨rfl, hb⟩
  have HY1 := Lib.hid ((hb.block y hylt).trans HY.out)
  obtain ⟨_, _, _, _, d4, _, _, df⟩ := raw_cells HY1.out
  have df4 := df 4
  have hy1 := blk_lt HY1.out
  have HB := Lib.hid hb
  clear hb df
  go_wp2_with fail
  have hss : (w1.setCell ⟨y, 4, none⟩ (.map (some w1.heap.size))).heap.size = w1.heap.size := by simp [World.setCell]
  have hs0 := heap_setCell_same w1 y 4 _ _ (.map (some w1.heap.size)) HY1.out
  have hu0 : Upd (fun k => k = y) w (w1.setCell ⟨y, 4, none⟩ (.map (some w1.heap.size))) := (Upd.of_below (F := fun k => k = y) HB.out).setCell (p := ⟨y, 4, none⟩) (.inl rfl) _
  have HS1 := Lib.hid (show _ = some (.cells (rawRow log size 0 b (some w1.heap.size) none) 68) from ((Below.refl _ (w1.setCell ⟨y, 4, none⟩ (.map (some w1.heap.size)))).alloc (Nat.le_refl _) (.map #[] 0)).block y (by rw [hss]; exact hy1) |>.trans hs0)
  have HU1 := Lib.hid (hu0.alloc (.map #[] 0))
  have hsz1 : ((w1.setCell ⟨y, 4, none⟩ (.map (some w1.heap.size))).alloc (.map #[] 0)).heap.size = w1.heap.size + 1 := by rw [World.size_alloc, hss]
  have HSZ1 := Lib.hid hsz1
  clear hs0 hu0 d4 df4 hss hsz1
  refine (fwhole_any [0] _ (by simp)).mono ?_
  rintro e w2 ⟨rfl, hb2⟩
  have HY2 := Lib.hid ((hb2.block y (by rw [HSZ1.out]; omega)).trans HS1.out)
  have HU2 := Lib.hid (HU1.out.trans (Upd.of_below (F := fun k => k = y) hb2) (fun i hi => .inl hi))
  clear hb2 HS1 HU1
  obtain ⟨_, _, _, d3, _, _, _, df⟩ := raw_cells HY2.out
  have df3 := df 3
  clear df
  go_wp2_with fail
  have hs3 := heap_setCell_same w2 y 3 _ _ (.int .i64 (a : Int)) HY2.out
  have hu3 : Upd (fun k => k = y) w (w2.setCell ⟨y, 3, none⟩ (.int .i64 (a : Int))) := HU2.out.setCell (p := ⟨y, 3, none⟩) (.inl rfl) _
  have HY3 := Lib.hid (show _ = some (Obj.cells (rawRow log size a b (some w1.heap.size) none) 68) from hs3)
  have HU3 := Lib.hid hu3
  clear hs3 hu3 df3 d3 HY2 HU2
  generalize w2.setCell ⟨y, 3, none⟩ (.int .i64 (a : Int)) = w3 at *
  refine (HGET.out _).mono ?_
  rintro e w3' ⟨rfl, rfl⟩
  obtain ⟨_, _, _, d3, _⟩ := raw_cells HY3.out
  go_wp2_with fail
  refine (HMK.out _).mono ?_
  rintro e w4 ⟨rfl, hb4⟩
  have HY4 := Lib.hid ((hb4.block y (blk_lt HY3.out)).trans HY3.out)
  have HU4 := Lib.hid (HU3.out.trans (Upd.of_below (F := fun k => k = y) hb4) (fun i hi => .inl hi))
  have HD4 := Lib.hid (HDA.out.upd HU4.out (fun k hk e => by subst e; exact HDA.out.noBlk k hk (t := 68) (by decide) (by decide) ⟨_, _, HY.out⟩))
  have HYD := Lib.hid (show w4.drew.heap[y]? = _ from HY4.out)
  have HDD := Lib.hid (HD4.out.below (Below.refl w4.heap.size w4).drew)
  have HUD := Lib.hid (HU4.out.trans (Upd.of_below (F := fun k => k = y) (Below.refl w4.heap.size w4).drew) (fun i hi => .inl hi))
  have KS := Lib.hid (fun (V : World) (h : V.heap[y]? = some (Obj.cells (rawRow log size a b (some w1.heap.size) none) 68)) => (⟨(raw_cells h).1, (raw_cells h).2.1, (raw_cells h).2.2.1, (raw_cells h).2.2.2.1⟩ : V.cell? ⟨y, 0, none⟩ = some (.pointer (some ⟨b, 0, none⟩)) ∧ V.cell? ⟨y, 1, none⟩ = some (.int .i64 (log : Int)) ∧ V.cell? ⟨y, 2, none⟩ = some (.int .i64 (size : Int)) ∧ V.cell? ⟨y, 3, none⟩ = some (.int .i64 (a : Int))))
  obtain ⟨d0, d1, d2, d3⟩ := KS.out _ HY4.out
  clear hb4 HU3 HY3
  go_wp2_with fail
  go_region_held3 (fun V => V.cell? ⟨y, 0, none⟩ = some (.pointer (some ⟨b, 0, none⟩)) ∧ V.cell? ⟨y, 1, none⟩ = some (.int .i64 (log : Int)) ∧ V.cell? ⟨y, 2, none⟩ = some (.int .i64 (size : Int)) ∧ V.cell? ⟨y, 3, none⟩ = some (.int .i64 (a : Int)))
    (first | exact KS.out _ HYD.out | exact KS.out _ HY5.out | exact KS.out _ HY6.out)
    (first
      | (go_at_call 63; refine (fbegin_any _ log size a _ (by omega) (by omega) ha).mono ?_; rintro e w5 ⟨rfl, hb5⟩; have HY5 := Lib.hid ((hb5.block y (blk_lt HYD.out)).trans HYD.out); have HD5 := Lib.hid (HDD.out.below hb5); have HU5 := Lib.hid (HUD.out.trans (Upd.of_below (F := fun k => k = y) hb5) (fun i hi => .inl hi)); clear hb5)
      | (go_at_call 59; refine (HRD2.out _ HD5.out).mono ?_; rintro e w6 ⟨rfl, hb6⟩; have HY6 := Lib.hid ((hb6.block y (blk_lt HY5.out)).trans HY5.out); have HU6 := Lib.hid (HU5.out.trans (Upd.of_below (F := fun k => k = y) hb6) (fun i hi => .inl hi)); clear hb6))
  clear d0 d1 d2 d3 HYD HDD HUD HD4 HY4 HU4 HD5 HY5 HU5 KS
  go_wp2_with fail
  refine (HCUT.out _).mono ?_
  rintro e w7 ⟨rfl, hb7⟩
  have HY7 := Lib.hid ((hb7.block y (blk_lt HY6.out)).trans HY6.out)
  have HU7 := Lib.hid (HU6.out.trans (Upd.of_below (F := fun k => k = y) hb7) (fun i hi => .inl hi))
  clear hb7 HY6 HU6
  go_wp2_with fail
  refine (HREAD.out _).mono ?_
  rintro e w8 ⟨mb, rfl, hm8, hb8, hn8⟩
  have HY8 := Lib.hid ((hb8.block y (blk_lt HY7.out)).trans HY7.out)
  have HU8 := Lib.hid (HU7.out.trans (Upd.of_below (F := fun k => k = y) hb8) (fun i hi => .inl hi))
  have HM8 := Lib.hid hm8
  have HN8 := Lib.hid (show w.heap.size ≤ mb from Nat.le_trans HU7.out.size hn8)
  clear hb8 HY7 HU7 hm8 hn8
  obtain ⟨_, _, _, _, d4, _, _, df⟩ := raw_cells HY8.out
  have df4 := df 4
  clear df
  go_wp2_with fail
  go_ret2
  refine ⟨mb, rfl, heap_setCell_same w8 y 4 _ _ _ HY8.out, HM8.out.upd (Upd.setCell (F := fun k => k = y) (Upd.refl _ _) (p := ⟨y, 4, none⟩) (.inl rfl) _) ?_, HU8.out.setCell (p := ⟨y, 4, none⟩) (.inl rfl) _, HN8.out⟩
  intro e
  subst e
  exact HM8.out.noBlk ⟨_, _, HY8.out⟩
end Go.Proofs.YtoaihngckcbhiaaGreatDoor
