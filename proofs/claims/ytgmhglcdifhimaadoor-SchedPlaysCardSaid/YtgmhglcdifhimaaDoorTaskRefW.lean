/- maslinref30: Workers, walked. -/
import Derived.Test.YtgmhglcdifhimaaDoorTaskRef
import Derived.Deep.AppendLies
import Derived.Deep.CutRange
import Derived.Deep.CutBlock
namespace Go.Proofs.YtgmhglcdifhimaaDoor
open Go.RowKit Go.Maps Go.Sort
open Tsk

theorem ints_from (q : Option Addr) (n cap k : Nat) (hk : k ≤ n) : ∃ (q' : Option Addr) (c' : Nat), (∀ W, (Instr.slice 31 (.slice q n cap) (some (.int .i64 (k : Int))) none none).run Tryd.prog W = .ok (.slice q' (n - k) c') W) ∧
    ((q = none → cap = 0) → q' = none → c' = 0) ∧ ∀ W l, l.length = n → n ≤ cap → IntsAt W q l → IntsAt W q' (l.drop k) := by
  refine ⟨if cap = k then q else q.map (·.add (k * 1)), cap - k, fun W => ?_, fun e1 e2 => ?_, fun W l hl hc hat i hi => ?_⟩
  · have he : Tryd.prog.elem 31 = 3 := by kernel_rfl
    rw [run_slice_l W 31 q n cap (by rw [he]; exact Tryd.underlying31) .i64 (k : Int) (by omega) (by omega)]
    have hs : (Tryd.prog.info? 3).map (·.size) = some 1 := by kernel_rfl
    cases hq : Tryd.prog.info? 3 with
    | none => rw [hq] at hs; cases hs
    | some i =>
      have h1 : i.size = 1 := by rw [hq] at hs; simpa using hs
      simp [sizeOf, typeInfo, hq, h1, sliced, Result.andThen, go_sem]
  · split at e2
    · omega
    · have := e1 (by simpa using e2)
      omega
  · rw [List.length_drop] at hi
    have hne : ¬ cap = k := by omega
    obtain ⟨p, e, hcell⟩ := hat (k + i) (by omega)
    subst e
    refine ⟨p.add (k * 1), by rw [if_neg hne]; rfl, ?_⟩
    rw [List.getElem_drop, ← hcell, Nat.mul_one]
    congr 1
    unfold Addr.add
    by_cases h0 : k = 0
    · subst h0; simp
    · by_cases h1 : i = 0
      · subst h1; simp [h0]
      · simp [h0, h1, Nat.add_assoc]
theorem ints_to (q : Option Addr) (n cap k : Nat) (hk : k ≤ n) (hn : n ≤ cap) (W : World) : (Instr.slice 31 (.slice q n cap) none (some (.int .i64 (k : Int))) none).run Tryd.prog W = .ok (.slice q k cap) W := by
  have he : Tryd.prog.elem 31 = 3 := by kernel_rfl
  rw [run_slice_h W 31 q n cap (by rw [he]; exact Tryd.underlying31) .i64 (k : Int) (by omega) (by omega)]
  have hs : (Tryd.prog.info? 3).map (·.size) = some 1 := by kernel_rfl
  cases hq : Tryd.prog.info? 3 with
  | none => rw [hq] at hs; cases hs
  | some i =>
    have h1 : i.size = 1 := by rw [hq] at hs; simpa using hs
    simp [sizeOf, typeInfo, hq, h1, sliced, Result.andThen, go_sem]
theorem row_prefix {w : World} {base : Nat} {e : TypeId} {q : Option Addr} {n cap k : Nat} {xs : List Value} (h : w.ownsRow base e 1 (.slice q n cap) n xs) (hk : k ≤ n) : w.ownsRow base e 1 (.slice q k cap) k (xs.take k) := by
  obtain ⟨h1, h2⟩ := h
  refine ⟨by rw [List.length_take]; omega, ?_⟩
  rcases h2 with ⟨e1, e2⟩ | ⟨g, cap', cur, e1, hb, hg, hn, hm, hs, ht⟩
  · injection e1 with e3 e4 e5
    obtain rfl : k = 0 := by omega
    exact .inl ⟨by rw [e3, e5], rfl⟩
  · injection e1 with e3 _ e5
    subst e3; subst e5
    exact .inr ⟨g, cap, cur, rfl, hb, hg, by omega, hm, hs, by rw [← ht, List.take_take, Nat.mul_one, Nat.mul_one, Nat.min_eq_left hk]⟩
theorem row_base {w : World} {base e s : Nat} {v : Value} {n : Nat} {xs : List Value} (h : w.ownsRow base e s v n xs) {g : Nat} (hg : v.ownBlock = some g) : base ≤ g := by
  rcases h.2 with ⟨e1, _⟩ | ⟨g', cap', cur, e1, hb, _⟩
  · rw [e1] at hg; cases hg
  · rw [e1] at hg; cases hg; exact hb
theorem row_cap {w : World} {base e s : Nat} {q : Option Addr} {n n' cap : Nat} {xs : List Value} (h : w.ownsRow base e s (.slice q n' cap) n xs) : n ≤ cap ∧ (q = none → cap = 0) := by
  rcases h.2 with ⟨e1, e2⟩ | ⟨g, cap', cur, e1, _, _, hn, _⟩
  · injection e1 with _ _ e5
    exact ⟨by omega, fun _ => e5⟩
  · injection e1 with e3 _ e5
    subst e5
    exact ⟨hn, fun e => by rw [e3] at e; cases e⟩
theorem run_append_ints (w : World) (ty : TypeId) (base : Nat) (v : Value) (l : List Int) (hown : w.ownsRow base 3 1 v l.length (l.map encZ)) (a : Option Addr) (cap : Nat) (m : List Int) (h : IntsAt w a m) (hz : a = none → cap = 0) (hlen : l.length + m.length ≤ 1000000000) (hbase : base ≤ w.heap.size) :
    ∃ v' w', (Builtin.append_ #[31, 31] ty #[v, .slice a m.length cap]).run Tryd.prog w = .ok v' w' ∧ w'.ownsRow base 3 1 v' (l ++ m).length ((l ++ m).map encZ) ∧ w.grownBy w' v.ownBlock := by
  obtain ⟨i0, hi0, hz0, hz1, hz2⟩ := info_parts int_info
  cases a with
  | none =>
    obtain rfl := h.nil
    rw [hz rfl, List.append_nil]
    exact ⟨_, w, run_append_owned_none (P := Tryd.prog) (w := w) base 31 ty 3 i0 1 Tryd.underlying31 hi0 v l.length (l.map encZ) hown, hown, World.grownBy.refl _ _⟩
  | some p =>
    obtain ⟨v', w', hr, g2, g3, _, g5⟩ := run_append_own_at (P := Tryd.prog) w base 31 ty 3 i0 _ 1 8 Tryd.underlying31 hi0 hz0 hz1 hz2 rfl (by omega) v l.length (l.map encZ) hown p m.length cap (m.map encZ) (by rw [List.length_map]; omega) h.cells (encZ_one m) (by unfold maxLen; omega) (by omega) hbase
    exact ⟨v', w', hr, by rw [List.length_append, List.map_append]; exact g2, g3⟩
theorem wpList_append_ints {w : World} {ops : Array Oper} {rest : List Oper} {o : Oper} {a : Act} {Q : Exit → Act → World → Prop} (hgd : o.guard = none) (s x : Operand)
    (ho : o.op = .call { callee := .builtin .append, args := #[s, x], argTypes := #[31, 31] }) (base : Nat) (v : Value) (l : List Int) (hs : a.eval s = v) (hown : w.ownsRow base 3 1 v l.length (l.map encZ)) (ad : Option Addr) (cap : Nat) (m : List Int) (hx : a.eval x = .slice ad m.length cap)
    (ht : IntsAt w ad m) (hz : ad = none → cap = 0) (hlen : l.length + m.length ≤ 1000000000) (hbase : base ≤ w.heap.size)
    (h : ∀ v' w', w'.ownsRow base 3 1 v' (l ++ m).length ((l ++ m).map encZ) → w.grownBy w' v.ownBlock → wpList Tryd.prog ops Q rest (a.put o.dst v') w') :
    wpList Tryd.prog ops Q (o :: rest) a w := by
  refine wpList_plain hgd fun K hK => ?_
  obtain ⟨v', w', hr, h2, h3⟩ := run_append_ints w o.type base v l hown ad cap m ht hz hlen hbase
  unfold Oper.wp execOp
  simp only [ho, resolve, invoke, builtin, Sem.run_bind, Sem.run_pure, Result.andThen_ok, List.map_toArray, List.map_cons, List.map_nil, hs, hx, hr]
  exact hK _ _ (h v' w' h2 h3)
theorem insI_at : ∀ (x : Int) (l : List Int) (k : Nat) (hk : k ≤ l.length), (∀ i (h : i < k), l[i]'(by omega) < x) → (∀ (h : k < l.length), ¬ l[k] < x) → insI x l = l.take k ++ x :: l.drop k
  | x, [], k, hk, _, _ => by
    obtain rfl : k = 0 := by simpa using hk
    simp [insI]
  | x, y :: l, 0, _, _, h2 => by
    have : ¬ y < x := h2 (by simp)
    simp [insI, this]
  | x, y :: l, k + 1, hk, h1, h2 => by
    have hy : y < x := h1 0 (by omega)
    have e : insI x (y :: l) = y :: insI x l := by simp [insI, hy]
    rw [e, insI_at x l k (by simpa using hk) (fun i h => h1 (i + 1) (by omega)) (fun h => h2 (by simpa using h))]
    simp
/-- A row of numbers that is new. -/
def IntsPost (w : World) (l : List Int) (e : Ending) (w' : World) : Prop := ∃ q cap, e = .returned (.slice q l.length cap) ∧ IntsAt w' q l ∧ Below w.heap.size w w' ∧ ∀ p, q = some p → w.heap.size ≤ p.block
def wkI (T : List (Int × Nat)) (t j : Nat) : List Int := sortI (((T.take j).filter fun q => q.2 == t).map (·.1))
theorem wkI_zero (T : List (Int × Nat)) (t : Nat) : wkI T t 0 = [] := by unfold wkI sortI; simp
theorem wkI_len (T : List (Int × Nat)) (t j : Nat) : (wkI T t j).length ≤ j := by
  unfold wkI
  rw [(sortI_perm _).length_eq, List.length_map]
  exact Nat.le_trans (List.length_filter_le _ _) (by rw [List.length_take]; omega)
theorem wkI_no (T : List (Int × Nat)) (t j : Nat) (hj : j < T.length) (h : ¬ T[j].2 = t) : wkI T t (j + 1) = wkI T t j := by
  unfold wkI
  rw [List.take_succ_eq_append_getElem hj, List.filter_append]
  simp [h]
theorem wkI_yes (T : List (Int × Nat)) (t j : Nat) (hj : j < T.length) (h : T[j].2 = t) : wkI T t (j + 1) = insI T[j].1 (wkI T t j) := by
  unfold wkI
  rw [insI_sortI, List.take_succ_eq_append_getElem hj, List.filter_append]
  refine sortI_perm_eq ?_
  simp [h]
theorem wkI_all (b : Board) (t : Nat) : wkI b.tries.reverse t b.tries.reverse.length = b.workers t := by
  unfold wkI Board.workers
  rw [List.take_length, List.filter_reverse, List.map_reverse]
  exact sortI_perm_eq (List.reverse_perm _)
section
variable {w w' : World} {r : Nat} {lv tv : Value} {nvs : List Value} {b : Board} {k : Nat}
set_option maxRecDepth 100000 in
set_option maxHeartbeats 4000000 in
theorem rworkers_any (h : RefB w r lv tv nvs b) (hF : b.Fine k) (hk : k ≤ 1000000) (t : Nat) :
    Calls Tryd.prog 72 #[.pointer (some ⟨r, 0, none⟩), .int .i64 (t : Int)] w (IntsPost w (b.workers t)) := by
  obtain ⟨i0, hi0, hz0, hz1, hz2⟩ := info_parts int_info
  have HB := Lib.hid h
  have hcnt := hF.count
  have hrl := rev_len b
  have HRL := Lib.hid hrl
  obtain ⟨qt, capt, rfl⟩ := slice_len h.tries
  obtain ⟨_, c1, _, _, _⟩ := h.cells
  have HC1 := Lib.hid (fun (V : World) (hb : Below w.heap.size w V) => (hb.cell (p := ⟨r, 1, none⟩) (blk_lt h.struct)).trans c1)
  clear h hF hrl
  go_enter Tryd.func72, Tryd.ntmps72
  go_wp2_with fail
  go_loopw [5, 6] (fun v i wr => ∃ j : Nat, j ≤ b.tries.length ∧ i = .int .i64 j ∧ Below w.heap.size w wr ∧ wr.ownsRow w.heap.size 3 1 v (wkI b.tries.reverse t j).length ((wkI b.tries.reverse t j).map encZ)) (fun _ i _ => b.tries.length - (intOf i).toNat)
  case atStart => exact ⟨0, Nat.zero_le _, rfl, Below.refl _ _, by rw [wkI_zero]; exact World.ownsRow_nil _ _ _ _⟩
  case round =>
    clear c1
    obtain ⟨j, hj, rfl, hb, hrow⟩ := hrel
    have HBL := Lib.hid hb; have HROW := Lib.hid hrow
    have c1 := HC1.out wr hb
    obtain ⟨qo, co, rfl⟩ := slice_len hrow
    clear hb hrow
    by_cases hlt : j < b.tries.length
    · have hlr : j < b.tries.reverse.length := by rw [HRL.out]; exact hlt
      obtain ⟨g, cap', hg', hix, d0, d1⟩ := (HB.out.below HBL.out).try_ j hlr
      have HYES := Lib.hid (wkI_yes b.tries.reverse t j hlr)
      have HNO := Lib.hid (wkI_no b.tries.reverse t j hlr)
      have hwl := wkI_len b.tries.reverse t j
      have hglt : g < wr.heap.size := block_lt_of_cell d0
      have hgd : g < wr.heap.size → True := fun _ => trivial
      generalize b.tries.reverse[j] = q0 at *
      generalize wkI b.tries.reverse t j = out at *
      clear hg' hlr hgd
      obtain ⟨qx, qt2⟩ := q0
      simp only at d0 d1 HYES HNO
      by_cases hx : qt2 = t
      · have hb1 : ((qt2 : Int) != (t : Int)) = false := by simp; omega
        have HY := Lib.hid (HYES.out hx)
        clear hx HYES HNO
        obtain ⟨w0, hw0⟩ : ∃ w0, w0 = wr := ⟨_, rfl⟩
        subst hw0
        have HIA := Lib.hid (ints_of_row HROW.out)
        go_upto_block 2 with fail
        go_cut [7] from 28 to 48 (fun s7 wx => ∃ kk : Nat, kk ≤ out.length ∧ s7 = .int .i64 kk ∧ Below w0.heap.size w0 wx ∧ insI qx out = out.take kk ++ qx :: out.drop kk)
        case first =>
          go_wp2_with fail
          go_loopw [7] (fun i wx => ∃ kk : Nat, kk ≤ out.length ∧ i = .int .i64 kk ∧ Below w0.heap.size w0 wx ∧ ∀ i (h : i < kk) (h' : i < out.length), out[i] < qx) (fun i _ => out.length - (intOf i).toNat)
          case atStart => exact ⟨0, Nat.zero_le _, rfl, Below.refl _ _, fun i hi => by omega⟩
          case round =>
            obtain ⟨kk, hkk, rfl, hbx, hall⟩ := hrel
            have HBX := Lib.hid hbx; have HALL := Lib.hid hall
            clear hall
            have c1x := (hbx.cell (p := ⟨r, 1, none⟩) (block_lt_of_cell c1)).trans c1
            have d0x := (hbx.cell (p := ⟨g, j * 2, none⟩) hglt).trans d0
            clear hbx
            by_cases hlt2 : kk < out.length
            · obtain ⟨ia, ic, ie, iat, _⟩ := HIA.out
              injection ie with ie1 _ ie2
              subst ie1; subst ie2
              obtain ⟨qy, hyx, hyc⟩ := (iat.below' HBX.out).index co kk hlt2
              have HLT := Lib.hid (show out[kk] < qx → ∀ i (h : i < kk + 1) (h' : i < out.length), out[i] < qx from fun h i hi h' => by
                by_cases e : i = kk
                · subst e; exact h
                · exact HALL.out i (by omega) h')
              have HGE := Lib.hid (show ¬ out[kk] < qx → insI qx out = out.take kk ++ qx :: out.drop kk from fun h => insI_at qx out kk hkk (fun i hi => HALL.out i hi (by omega)) (fun _ => h))
              generalize out[kk] = y at *
              clear iat
              by_cases hyq : y < qx
              · have HL2 := Lib.hid (HLT.out hyq)
                clear HLT HGE
                go_wp2_with fail
                go_region
                go_wp2_with fail
                go_roundw
                case rel => exact ⟨kk + 1, by omega, by go_num, HBX.out.drew, HL2.out⟩
                case measure => simp [intOf]; omega
              · have HG2 := Lib.hid (HGE.out hyq)
                clear HLT HGE
                go_wp2_with fail
                go_region
                go_wp2_with fail
                go_meet
                case rel => exact ⟨kk, hkk, rfl, HBX.out.drew, HG2.out⟩
            · have HG2 := Lib.hid (show insI qx out = out.take kk ++ qx :: out.drop kk from insI_at qx out kk hkk (fun i hi => HALL.out i hi (by omega)) (fun h => absurd h hlt2))
              go_wp2_with fail
              go_region
              go_wp2_with fail
              go_meet
              case rel => exact ⟨kk, hkk, rfl, HBX.out.drew, HG2.out⟩
        case rest =>
          obtain ⟨kk, hkk, rfl, hbx, hins⟩ := hcut
          have HBX := Lib.hid hbx; have HINS := Lib.hid hins
          obtain ⟨qr, cr, hfrom, hz, hatf⟩ := ints_from qo out.length co kk hkk
          obtain ⟨hcap, hcz⟩ := row_cap HROW.out
          have hto := fun V => ints_to qo out.length co kk hkk hcap V
          obtain ⟨ia, ic, ie, iat, _⟩ := HIA.out
          injection ie with ie1 _ ie2
          subst ie1; subst ie2
          have HFA := Lib.hid (hatf wc out rfl hcap (iat.below' hbx))
          have HZ := Lib.hid (hz hcz)
          have HRW := Lib.hid (row_below HROW.out hbx)
          have c1x := (hbx.cell (p := ⟨r, 1, none⟩) (block_lt_of_cell c1)).trans c1
          have d0x := (hbx.cell (p := ⟨g, j * 2, none⟩) hglt).trans d0
          have hdl : (out.drop kk).length = out.length - kk := List.length_drop
          clear hbx hins hz hatf iat hcz
          go_wp2_with (at_builtin; refine wpList_copy_ints rfl _ _ rfl rfl qr cr (out.drop kk) (by rw [List.length_drop]; rfl) HFA.out HZ.out (by omega) ?_; intro v1 w1 hin; obtain ⟨qv, cv, rfl⟩ := slice_len hin.row; have HIN := Lib.hid hin; clear hin)
          have hb01 : Below w0.heap.size w0 w1 := HBX.out.trans (HIN.out.below.mono HBX.out.size)
          have HB01 := Lib.hid hb01
          have c1y := (hb01.cell (p := ⟨r, 1, none⟩) (block_lt_of_cell c1)).trans c1
          have d0y := (hb01.cell (p := ⟨g, j * 2, none⟩) hglt).trans d0
          have HR1 := Lib.hid (row_prefix (row_below HRW.out HIN.out.below) hkk)
          have hs1 : w.heap.size ≤ w1.heap.size := by have := HBL.out.size; have := hb01.size; omega
          clear c1x d0x hb01
          go_region_law ((refine step_append_lies _ (by rfl) _ _ _ (by rfl) w.heap.size 3 i0 _ 1 8 Tryd.underlying31 hi0 hz0 hz1 hz2 (by rfl) (by omega) (.slice qo kk co) kk ((out.map encZ).take kk) (by rfl) (HR1.out.drew.alloc _) ⟨w1.heap.size, 0, none⟩ 1 1 [.int .i64 qx] (by rfl) (by rfl) (World.news_of_block (cs := #[.int .i64 qx]) (t := 3) (fr := (0, 0)) (heap_alloc_new w1.drew _)) (fun u hu => by simp at hu; subst hu; rfl) (by omega) (by unfold maxLen; omega) (by omega) (by simp; omega) (w1.heap.size + 1) (by simp) ?_; intro gg cap2 w2 hown2 hgrow hat hlt2))
          all_goals
            have hba : Below w1.heap.size w1 (w1.drew.alloc (Obj.cells #[.int .i64 qx] 3)) := ((Below.refl _ w1).drew).alloc (Nat.le_refl _) _
            have hqlt : ∀ i, qo = some i → i.block < w0.heap.size := fun i hi => by subst hi; exact ownsRow_lt HROW.out rfl
            have hqge : ∀ i, (Value.slice qo kk co).ownBlock = some i → w.heap.size ≤ i := fun i hi => row_base HROW.out (v := .slice qo out.length co) (by cases qo with | none => cases hi | some p => exact hi)
            have hiv : IntsAt w2 qv (out.drop kk) := by
              obtain ⟨ja, jc, je, jat, _⟩ := ints_of_row HIN.out.row
              injection je with je1 _ _
              subst je1
              refine (jat.below' hba).keep (F := fun i => (Value.slice qo kk co).ownBlock = some i) (Upd.of_grownBy hgrow (fun i e => e)) (fun p hp e => ?_)
              subst hp
              have h1 := HIN.out.new p.block rfl
              cases qo with
              | none => cases e
              | some pq =>
                have h2 := hqlt pq rfl
                have h3 := HBX.out.size
                have e2 : pq.block = p.block := Option.some.inj e
                omega
            have hcv := (row_cap HIN.out.row).2
            have hrow2 : w2.ownsRow w.heap.size 3 1 (.slice (some ⟨gg, 0, none⟩) (kk + 1) cap2) (out.take kk ++ [qx]).length ((out.take kk ++ [qx]).map encZ) := by
              have e1 : (out.take kk ++ [qx]).length = kk + 1 := by simp; omega
              rw [e1, List.map_append, List.map_take]
              exact hown2
            have hb2 : Below w.heap.size w w2 := ((HBL.out.trans (HB01.out.mono HBL.out.size)).trans (hba.mono hs1)).grown hgrow (by simp; omega) hqge
            have hge : w.heap.size ≤ gg := by
              rcases hat with h | h
              · exact hqge gg h
              · omega
            have HIV := Lib.hid hiv; have HCV := Lib.hid hcv; have HROW2 := Lib.hid hrow2; have HB2 := Lib.hid hb2
            have hs2 : w.heap.size ≤ w2.heap.size := hb2.size
            have hlk : (out.take kk ++ [qx]).length = kk + 1 := by simp; omega
            have HLK := Lib.hid hlk
            clear hba hqlt hqge hiv hcv hrow2 hb2 hown2 hgrow hat hlk hdl c1y d0y
            go_wp2_with (at_builtin; refine wpList_append_ints rfl _ _ rfl w.heap.size (.slice (some ⟨gg, 0, none⟩) (kk + 1) cap2) (out.take kk ++ [qx]) rfl HROW2.out qv cv (out.drop kk) (by rw [List.length_drop]; rfl) HIV.out HCV.out (by rw [HLK.out, List.length_drop]; omega) hs2 ?_; intro v3 w3 hown3 hgrow3; have HOWN3 := Lib.hid hown3; have HGROW3 := Lib.hid hgrow3; clear hown3 hgrow3)
            go_roundw
            case rel =>
              refine ⟨j + 1, by omega, by go_num, HB2.out.grown HGROW3.out hs2 (fun i e => by cases e; exact hge), ?_⟩
              rw [HY.out, HINS.out]
              have := HOWN3.out
              rw [List.append_assoc] at this
              exact this
            case measure => simp [intOf]; omega
      · have hb1 : ((qt2 : Int) != (t : Int)) = true := by simp; omega
        have HY := Lib.hid (HNO.out hx)
        clear hx HYES HNO
        go_wp2_with fail
        go_roundw
        case rel => exact ⟨j + 1, by omega, by go_num, HBL.out, by rw [HY.out]; exact HROW.out⟩
        case measure => simp [intOf]; omega
    · obtain rfl : j = b.tries.length := by omega
      have HA := Lib.hid (wkI_all b t)
      have HLEN := Lib.hid (show (wkI b.tries.reverse t b.tries.length).length = (b.workers t).length by rw [← HRL.out, HA.out])
      rw [← HRL.out, HA.out] at HROW
      obtain ⟨ia, ic, ie, iat, _⟩ := ints_of_row HROW.out
      have HNEW := Lib.hid (fun g hg => row_base HROW.out (g := g) hg)
      injection ie with ie1 ie0 ie2
      subst ie1; subst ie2
      have HIA := Lib.hid iat
      clear iat ie0
      go_wp2_with fail
      go_ret
      exact ⟨qo, co, by rw [← HLEN.out]; rfl, HIA.out, HBL.out, fun p hp => HNEW.out p.block (by subst hp; rfl)⟩
end
end Go.Proofs.YtgmhglcdifhimaaDoor
