/- maslinlaw05.WalPlays, walked. -/
import Derived.Test.YthbdflmckfgleaaPairDoes
import Derived.Test.YthbdflmckfgleaaWalNil
namespace Go.Proofs.Ythbdflmckfgleaa
open Go.RowKit Go.Maps
open Wal

set_option maxRecDepth 100000 in
set_option maxHeartbeats 8000000 in
theorem walPlays_walk (W : World) (N F M : Int) (hF : (Lit.int .i64 F).wf = true) (hM : (Lit.int .i64 M).wf = true) (a : Option Addr) (cap : Nat) (l : List WStp) (hl : WStepsAt W a l) (hlen : l.length ≤ maxLen) (hok : ∀ x ∈ l, x.okay) (lv : Value) (lg : List (List UInt8)) (hg : TextsIn W lv lg) :
    Calls Try.prog 12 #[.int .i64 N, .int .i64 F, .int .i64 M, .slice a l.length cap, lv] W fun e w' => e = .returned (.bool true) ∧ Below W.heap.size W w' := by
  have HL := Lib.hid hl
  have HOK := Lib.hid hok
  have HLEN := Lib.hid hlen
  have hlen2 := hlen
  unfold maxLen at hlen2
  have HA := Lib.hid (i64_of hF); have HNN := Lib.hid (i64_of hM)
  obtain ⟨ga, gc, rfl, htg, hcg⟩ := hg.at_
  have HTG := Lib.hid htg; have HCG := Lib.hid hcg; have HG := Lib.hid hg
  clear hl hok hlen hF hM htg hcg hg
  have HB1 := Lib.hid ((Below.refl W.heap.size W).alloc (Nat.le_refl _) (.cells #[.int .i64 0, .int .i64 0, .slice ga lg.length gc, .string (bs [])] 76))
  have HHV := Lib.hid (wheavy_any 1 (some ⟨W.heap.size, 0, none⟩) 1 [⟨0, 0, lg, []⟩] (W.alloc (.cells #[.int .i64 0, .int .i64 0, .slice ga lg.length gc, .string (bs [])] 76)) (wsteps_lit (heap_alloc_new W _) (HG.out.below HB1.out)) (by unfold maxLen; simp) (fun x hx => by rw [List.mem_singleton] at hx; subst hx; exact ⟨rfl, rfl, by simp⟩))
  go_enter Try.func12, Try.ntmps12
  go_wp2_with fail
  refine (wheavy_any N a cap l W HL.out HLEN.out HOK.out).mono ?_
  rintro e w1 ⟨hv, rfl, rfl, himp⟩
  cases hv with
  | true =>
    clear himp
    go_wp2_with fail
    refine (alive5_any _).mono ?_
    rintro e w2 ⟨rfl, hb⟩
    go_wp2_with fail
    go_ret
    exact ⟨rfl, hb⟩
  | false =>
    obtain ⟨hLight, h100⟩ := himp rfl
    have HALL := Lib.hid hLight.at_
    have hlen60 := hLight.len
    clear himp hLight
    go_wp2_with fail
    refine HHV.out.mono ?_
    generalize W.alloc (.cells #[.int .i64 0, .int .i64 0, .slice ga lg.length gc, .string (bs [])] 76) = W1 at *
    rintro e w1 ⟨hv, rfl, rfl, himp⟩
    cases hv with
    | true =>
      clear himp
      go_wp2_with fail
      refine (alive5_any _).mono ?_
      rintro e w2 ⟨rfl, hb⟩
      have HB2 := Lib.hid (HB1.out.trans (hb.mono HB1.out.size))
      clear hb
      go_wp2_with fail
      go_ret
      exact ⟨rfl, HB2.out⟩
    | false =>
      obtain ⟨hLight, _⟩ := himp rfl
      obtain ⟨g1, g2, _⟩ := hLight.at_ _ (List.mem_singleton.2 rfl)
      have g1 : rowLen lg ≤ 8194 := g1
      have g2 : lg.length ≤ 60 := g2
      clear himp hLight
      by_cases h1 : N < 1
      · have hmay : (decide (1 ≤ N) && decide (N ≤ 16384)) = false := by
          have : decide (1 ≤ N) = false := by simp; omega
          rw [this]; rfl
        have HM := Lib.hid hmay
        clear hmay
        go_wp2_with fail
        refine (may_any N _).mono ?_
        rw [HM.out]
        rintro e w2 ⟨rfl, rfl⟩
        go_wp2_with fail
        refine (alive5_any _).mono ?_
        rintro e w2 ⟨rfl, hb⟩
        have HB2 := Lib.hid (HB1.out.trans (hb.mono HB1.out.size))
        clear hb
        go_wp2_with fail
        go_ret
        exact ⟨rfl, HB2.out⟩
      obtain ⟨n, rfl⟩ : ∃ n : Nat, N = (n : Int) := ⟨N.toNat, by omega⟩
      have hmay : (decide (1 ≤ (n : Int)) && decide ((n : Int) ≤ 16384)) = true := by simp; omega
      have HM := Lib.hid hmay
      have hn1 : 1 ≤ n := by omega
      have hn100 : n ≤ 100 := by omega
      clear hmay h1 h100
      go_wp2_with fail
      refine (may_any n _).mono ?_
      rw [HM.out]
      rintro e w2 ⟨rfl, rfl⟩
      clear HHV HM
      go_wp2_with fail
      refine (nilAppend_any _ _).mono ?_
      rintro e w2 ⟨rfl, hb⟩
      have HB2 := Lib.hid ((HB1.out.alloc HB1.out.size _).trans (hb.mono (HB1.out.alloc HB1.out.size _).size))
      clear hb
      go_wp2_with fail
      refine (nilReset_any _).mono ?_
      rintro e w3 ⟨rfl, hb⟩
      have HB3 := Lib.hid (HB2.out.trans (hb.mono HB2.out.size))
      clear hb
      go_wp2_with fail
      refine (nilGroups_any _).mono ?_
      rintro e w4 ⟨rfl, rfl⟩
      go_wp2_with fail
      refine (nilGen_any _).mono ?_
      rintro e w4 ⟨rfl, rfl⟩
      go_wp2_with fail
      refine (nilRoom_any _).mono ?_
      rintro e w4 ⟨rfl, rfl⟩
      go_wp2_with fail
      refine (nilFault_any _).mono ?_
      rintro e w4 ⟨rfl, rfl⟩
      have HTG3 := Lib.hid (HTG.out.below HB3.out)
      clear HTG HB1 HB2
      go_wp2_with (at_builtin; refine wpList_copy_texts rfl _ _ rfl rfl ga gc lg rfl HTG3.out HCG.out (by omega) ?_; intro va wa hA hBA hNA)
      obtain ⟨qA, cA, rfl, htA⟩ := (RowOk.of_row hA).texts
      have HB4 := Lib.hid (HB3.out.trans (hBA.mono HB3.out.size))
      have HTA := Lib.hid htA
      have HTG4 := Lib.hid (HTG3.out.below hBA)
      clear hA hBA hNA htA HTG3
      have hnd := walNeed_any lg qA cA wa HTA.out (by unfold maxLen; omega) (by omega)
      have hrd := fun (V : World) (ht : TextsAt V ga lg) => rneed_any lg ga gc V ht (by unfold maxLen; omega) (by omega)
      generalize (groupV lg).1.length / 64 = n1, (groupV lg).2 = n2 at hnd hrd
      have HND := Lib.hid hnd; have HRD := Lib.hid hrd
      clear hnd hrd
      refine HND.out.mono ?_
      rintro e w5 ⟨rfl, hb⟩
      have HB5 := Lib.hid (HB4.out.trans (hb.mono HB4.out.size))
      have HTG5 := Lib.hid (HTG4.out.below hb)
      clear hb HTG4 HTA
      go_wp2_with fail
      refine (HRD.out _ HTG5.out).mono ?_
      rintro e w6 ⟨rfl, hb⟩
      have HB6 := Lib.hid (HB5.out.trans (hb.mono HB5.out.size))
      clear hb HTG5 HND HRD
      go_wp2_with fail
      refine (new_my HB6.out (Nat.le_refl _) n (by omega) (by omega)).mono ?_
      rintro e w7 ⟨b, fp, rfl, h0⟩
      have H0 := Lib.hid h0
      clear h0
      go_wp2_with fail
      refine (rnew_any n _ (by omega) (by omega)).mono ?_
      rintro e w8 ⟨r, fr, rfl, hR, hbe, hnw⟩
      have hfp := H0.out.disk.lt
      have HB0 := Lib.hid (Both.mk (H0.out.step hbe) hR (fun k hk => Nat.le_trans (Nat.le_trans H0.out.size H0.out.below.size) (hnw k hk)) (fun k h1 h2 => by have := hfp k h1; have := hnw k h2; omega))
      clear hR hbe hnw hfp H0
      have HBP := Lib.hid (HB0.out.step ((Below.refl w8.heap.size w8).alloc (Nat.le_refl _) (.cells (pairRow b r (.pointer none) (.pointer none) F M) 86)))
      have HPR := Lib.hid (show PairAt (w8.alloc (.cells (pairRow b r (.pointer none) (.pointer none) F M) 86)) w8.heap.size b r (.pointer none) (.pointer none) F M from heap_alloc_new w8 _)
      have HPN := Lib.hid (show W.heap.size ≤ w8.heap.size from Nat.le_trans HB0.out.my.size HB0.out.my.below.size)
      go_wp2_with fail
      show Calls _ _ _ (w8.alloc (.cells (pairRow b r (.pointer none) (.pointer none) F M) 86)) _
      generalize w8.alloc (.cells (pairRow b r (.pointer none) (.pointer none) F M) 86) = w9 at *
      obtain ⟨p, hp⟩ : ∃ p, p = w8.heap.size := ⟨_, rfl⟩
      rw [← hp] at HPR HPN ⊢
      clear hp HB0
      have hpo := pairOpen_any HBP.out HPR.out HA.out HNN.out (Nat.zero_le _)
      unfold PairPost at hpo
      cases ho : (Dsk.new n).openW F M with
      | mk oL kk =>
        rw [ho] at hpo
        cases oL with
        | none =>
          have HPO := Lib.hid hpo
          clear hpo ho
          refine HPO.out.mono ?_
          rintro e wa2 ⟨rfl, hb⟩
          have hb : Below w9.heap.size w9 wa2 := hb
          have HBA := Lib.hid (HBP.out.step hb)
          have HPA := Lib.hid (HPR.out.below hb)
          clear hb HPO
          obtain ⟨_, _, p2, p3, _⟩ := HPA.out.cells
          go_wp2_with fail
          refine (alive5_any _).mono ?_
          rintro e w10 ⟨rfl, hb⟩
          have HB10 := Lib.hid (HBA.out.step hb).my.below
          clear hb
          go_wp2_with fail
          go_ret
          exact ⟨rfl, HB10.out⟩
        | some L =>
          have HMD := Lib.hid (openW_mod HBP.out.my.disk.fine ho)
          have HPO := Lib.hid hpo
          clear hpo ho
          refine HPO.out.mono ?_
          rintro e wb ⟨rfl, x, gv, y, gy, h1, h2, h3, hu, h4, h5, h6⟩
          have hsz : W.heap.size ≤ w9.heap.size := Nat.le_trans HBP.out.my.size HBP.out.my.below.size
          have hpd : ¬ fp p := fun hf => by have := HBP.out.my.disk.kindOf hf HPR.out.blk; revert this; decide
          have hpr : ¬ fr p := fun hf => by have := HBP.out.ref.kindOf hf HPR.out.blk; revert this; decide
          have hduo : Duo W.heap.size W wb b r x y p (Dsk.new n) (Dsk.new n) fp fr gv gy L L F M := ⟨HBP.out.past2 hu (fun k hk => by subst hk; exact HPN.out) (fun k hk e => hpd (e ▸ hk)) (fun k hk e => hpr (e ▸ hk)), h1, h2, fun k hk => Nat.le_trans hsz (h4 k hk), fun k hk => Nat.le_trans hsz (h5 k hk), h6, h3, HPN.out⟩
          have HPL := Lib.hid (show Play W.heap.size W wb b r p 0 F M x y (Dsk.new n) fp fr gv gy L from ⟨hduo, Nat.zero_le _, HMD.out⟩)
          obtain ⟨_, _, p2, p3, _⟩ := h3.cells
          clear h1 h2 h3 hu h4 h5 h6 hsz hpd hpr hduo HPO HBP HPR
          go_wp2_with fail
          clear p2 p3
          go_loopw [19] (fun i wr => ∃ k : Nat, k ≤ l.length ∧ i = .int .i64 k ∧ Played W.heap.size W wr b r p k F M) (fun i _ => l.length - (intOf i).toNat)
          case atStart => exact ⟨0, by omega, rfl, _, _, _, _, _, _, _, _, HPL.out⟩
          case round =>
            clear HPL HMD
            obtain ⟨k, hk, rfl, x1, x2, D, fp1, fr1, gv1, gy1, L1, hst⟩ := hrel
            have HST := Lib.hid hst
            clear hst
            by_cases hlt : k < l.length
            · obtain ⟨q, hidx, hat⟩ := HL.out.index cap k hlt
              have HALL1 := Lib.hid (HALL.out l[k] (List.getElem_mem hlt))
              obtain ⟨_, ho2, _⟩ := HOK.out l[k] (List.getElem_mem hlt)
              obtain ⟨d0, d1, ⟨tv, d2, ⟨⟨ta, tc, rfl, htxW, htc⟩, _, _⟩⟩, d3⟩ := hat.cells
              have HO2 := Lib.hid (i64_of ho2)
              have HTXW := Lib.hid htxW; have HTC := Lib.hid htc
              have HOLD := Lib.hid (TextsAt.old htxW)
              generalize l[k] = x at *
              have HSC := Lib.hid (fun (V : World) (hb : Below W.heap.size W V) => (⟨(hb.cell (block_lt_of_cell d0)).trans d0, (hb.cell (block_lt_of_cell d1)).trans d1, (hb.cell (block_lt_of_cell d2)).trans d2, (hb.cell (block_lt_of_cell d3)).trans d3⟩ : V.cell? q = some (.int .i64 x.what) ∧ V.cell? ⟨q.block, q.off + 1, none⟩ = some (.int .i64 x.n) ∧ V.cell? ⟨q.block, q.off + 2, none⟩ = some (.slice ta x.l.length tc) ∧ V.cell? ⟨q.block, q.off + 3, none⟩ = some (.string (bs x.keep))))
              clear hat ho2 d0 d1 d2 d3 htxW htc
              go_wp2_with fail
              have BR := Lib.hid (show Below W.heap.size W wr.drew from HST.out.duo.both.my.below.drew)
              have HST1 := Lib.hid (HST.out.step ((Below.refl wr.heap.size wr).drew))
              refine wp_region_held (S := (fun V : World => V.cell? q = some (.int .i64 x.what) ∧ V.cell? ⟨q.block, q.off + 1, none⟩ = some (.int .i64 x.n) ∧ V.cell? ⟨q.block, q.off + 2, none⟩ = some (.slice ta x.l.length tc) ∧ V.cell? ⟨q.block, q.off + 3, none⟩ = some (.string (bs x.keep)))) (by kernel_rfl) ?_
              refine wpAnyH_take (i := 0) (oi := ({ dst := some 133, op := Go.Op.move (Go.Operand.tmp 18), type := 84, pos := "law.go:132", after := #[], guard := none } : Oper)) (v := ?_) rfl (by kernel_rfl) (by kernel_rfl) (by kernel_rfl) (fun _ _ _ h => h) (Or.inl ⟨by rfl, ?_⟩) (HSC.out _ BR.out) ?_
              rotate_left
              · intro V hV
                try dsimp only at hV
                go_simp
                all_goals with_reducible rfl
              try simp only [Act.put, List.setIfInBounds_toArray, List.set_cons_zero, List.set_cons_succ]
              refine wpAnyH_take (i := 1) (oi := ({ dst := some 134, op := Go.Op.move (Go.Operand.tmp 3), type := 72, pos := "law.go:132", after := #[], guard := none } : Oper)) (v := ?_) rfl (by kernel_rfl) (by kernel_rfl) (by kernel_rfl) (fun _ _ _ h => h) (Or.inl ⟨by rfl, ?_⟩) (HSC.out _ BR.out) ?_
              rotate_left
              · intro V hV
                try dsimp only at hV
                go_simp
                all_goals with_reducible rfl
              try simp only [Act.put, List.setIfInBounds_toArray, List.set_cons_zero, List.set_cons_succ]
              refine wpAnyH_take (i := 2) (oi := ({ dst := some 135, op := Go.Op.move (Go.Operand.tmp 19), type := 3, pos := "law.go:132", after := #[], guard := none } : Oper)) (v := ?_) rfl (by kernel_rfl) (by kernel_rfl) (by kernel_rfl) (fun _ _ _ h => h) (Or.inl ⟨by rfl, ?_⟩) (HSC.out _ BR.out) ?_
              rotate_left
              · intro V hV
                try dsimp only at hV
                go_simp
                all_goals with_reducible rfl
              try simp only [Act.put, List.setIfInBounds_toArray, List.set_cons_zero, List.set_cons_succ]
              refine wpAnyH_take (i := 3) (oi := ({ dst := some 136, op := Go.Op.indexAddr 72 (Go.Operand.tmp 134) (Go.Operand.tmp 135), type := 0, pos := "law.go:132", after := #[{ on := 1, ground := Go.Ground.data }, { on := 2, ground := Go.Ground.data }], guard := none } : Oper)) (v := ?_) rfl (by kernel_rfl) (by kernel_rfl) (by kernel_rfl) (fun _ _ _ h => h) (Or.inl ⟨by rfl, ?_⟩) (HSC.out _ BR.out) ?_
              rotate_left
              · intro V hV
                try dsimp only at hV
                go_simp
                all_goals with_reducible rfl
              try simp only [Act.put, List.setIfInBounds_toArray, List.set_cons_zero, List.set_cons_succ]
              refine wpAnyH_take (i := 4) (oi := ({ dst := some 137, op := Go.Op.load 76 (Go.Operand.tmp 136), type := 76, pos := "law.go:132", after := #[{ on := 3, ground := Go.Ground.data }], guard := none } : Oper)) (v := ?_) rfl (by kernel_rfl) (by kernel_rfl) (by kernel_rfl) (fun _ _ _ h => h) (Or.inl ⟨by rfl, ?_⟩) (HSC.out _ BR.out) ?_
              rotate_left
              · intro V hV
                try dsimp only at hV
                go_simp
                all_goals with_reducible rfl
              try simp only [Act.put, List.setIfInBounds_toArray, List.set_cons_zero, List.set_cons_succ]
              refine wpAnyH_one (i := 5) (o := ({ dst := some 138, op := Go.Op.call { callee := Go.Callee.value (Go.Operand.func 58), args := #[Go.Operand.tmp 133, Go.Operand.tmp 137], argTypes := #[84, 76] }, type := 4, pos := "law.go:132", after := #[{ on := 0, ground := Go.Ground.data }, { on := 4, ground := Go.Ground.data }], guard := none } : Oper)) (by kernel_rfl) rfl (fun K1 hK1 => ?_)
              go_simp
              refine (pairDoes_any HST1.out x ta tc (HTXW.out.below BR.out) HTC.out HOLD.out HALL1.out HO2.out HA.out HNN.out (by omega)).mono ?_
              rintro e w5 ⟨rfl, y1, y2, D5, fp5, fr5, gv5, gy5, L5, hpl⟩
              have HP5 := Lib.hid hpl
              have B5 := Lib.hid hpl.duo.both.my.below
              obtain ⟨p0, p1, p2, p3, _⟩ := hpl.duo.pair.cells
              have HK5 := Lib.hid (fun (V : World) (hb : Below w5.heap.size w5 V) => (hpl.duo.pair.below hb).cells)
              clear hpl
              refine hK1 _ _ (HSC.out _ B5.out) ?_
              try simp only [Act.put, List.setIfInBounds_toArray, List.set_cons_zero, List.set_cons_succ]
              refine wpAnyH_mono (S2 := (fun V : World => ((fun V : World => V.cell? q = some (.int .i64 x.what) ∧ V.cell? ⟨q.block, q.off + 1, none⟩ = some (.int .i64 x.n) ∧ V.cell? ⟨q.block, q.off + 2, none⟩ = some (.slice ta x.l.length tc) ∧ V.cell? ⟨q.block, q.off + 3, none⟩ = some (.string (bs x.keep))) V) ∧ V.cell? ⟨p, 0, none⟩ = some (.pointer (some ⟨b, 0, none⟩)) ∧ V.cell? ⟨p, 1, none⟩ = some (.pointer (some ⟨r, 0, none⟩)) ∧ V.cell? ⟨p, 2, none⟩ = some (.pointer (some ⟨y1, 0, none⟩)) ∧ V.cell? ⟨p, 3, none⟩ = some (.pointer (some ⟨y2, 0, none⟩)))) (fun V hV => hV.1) _ _ _ _ ?_
              have HS5 := Lib.hid (fun (V : World) (hb : Below w5.heap.size w5 V) => (show (fun V : World => ((fun V : World => V.cell? q = some (.int .i64 x.what) ∧ V.cell? ⟨q.block, q.off + 1, none⟩ = some (.int .i64 x.n) ∧ V.cell? ⟨q.block, q.off + 2, none⟩ = some (.slice ta x.l.length tc) ∧ V.cell? ⟨q.block, q.off + 3, none⟩ = some (.string (bs x.keep))) V) ∧ V.cell? ⟨p, 0, none⟩ = some (.pointer (some ⟨b, 0, none⟩)) ∧ V.cell? ⟨p, 1, none⟩ = some (.pointer (some ⟨r, 0, none⟩)) ∧ V.cell? ⟨p, 2, none⟩ = some (.pointer (some ⟨y1, 0, none⟩)) ∧ V.cell? ⟨p, 3, none⟩ = some (.pointer (some ⟨y2, 0, none⟩))) V from ⟨HSC.out _ (B5.out.trans (hb.mono B5.out.size)), (HK5.out V hb).1, (HK5.out V hb).2.1, (HK5.out V hb).2.2.1, (HK5.out V hb).2.2.2.1⟩))
              clear p0 p1 p2 p3
              refine wpAnyH_take (i := 6) (oi := ({ dst := some 139, op := Go.Op.unOp Go.UnOp.not 4 (Go.Operand.tmp 138), type := 4, pos := "law.go:132", after := #[{ on := 5, ground := Go.Ground.data }], guard := none } : Oper)) (v := ?_) rfl (by kernel_rfl) (by kernel_rfl) (by kernel_rfl) (fun _ _ _ h => h) (Or.inl ⟨by rfl, ?_⟩) (HS5.out _ (Below.refl _ _)) ?_
              rotate_left
              · intro V hV
                try dsimp only at hV
                go_simp
                all_goals with_reducible rfl
              try simp only [Act.put, List.setIfInBounds_toArray, List.set_cons_zero, List.set_cons_succ]
              refine wpAnyH_take (i := 7) (oi := ({ dst := some 140, op := Go.Op.move (Go.Operand.tmp 139), type := 4, pos := "law.go:132", after := #[{ on := 6, ground := Go.Ground.data }, { on := 5, ground := Go.Ground.chain }], guard := none } : Oper)) (v := ?_) rfl (by kernel_rfl) (by kernel_rfl) (by kernel_rfl) (fun _ _ _ h => h) (Or.inl ⟨by rfl, ?_⟩) (HS5.out _ (Below.refl _ _)) ?_
              rotate_left
              · intro V hV
                try dsimp only at hV
                go_simp
                all_goals with_reducible rfl
              try simp only [Act.put, List.setIfInBounds_toArray, List.set_cons_zero, List.set_cons_succ]
              refine wpAnyH_take (i := 8) (oi := ({ dst := some 141, op := Go.Op.move (Go.Operand.tmp 18), type := 84, pos := "law.go:132", after := #[{ on := 7, ground := Go.Ground.guard }], guard := some (7, false) } : Oper)) (v := ?_) rfl (by kernel_rfl) (by kernel_rfl) (by kernel_rfl) (fun _ _ _ h => h) (Or.inl ⟨by rfl, ?_⟩) (HS5.out _ (Below.refl _ _)) ?_
              rotate_left
              · intro V hV
                try dsimp only at hV
                go_simp
                all_goals with_reducible rfl
              try simp only [Act.put, List.setIfInBounds_toArray, List.set_cons_zero, List.set_cons_succ]
              refine wpAnyH_take (i := 9) (oi := ({ dst := some 142, op := Go.Op.nilCheck (Go.Operand.tmp 141), type := 0, pos := "law.go:132", after := #[{ on := 8, ground := Go.Ground.data }, { on := 7, ground := Go.Ground.guard }], guard := some (7, false) } : Oper)) (v := ?_) rfl (by kernel_rfl) (by kernel_rfl) (by kernel_rfl) (fun _ _ _ h => h) (Or.inl ⟨by rfl, ?_⟩) (HS5.out _ (Below.refl _ _)) ?_
              rotate_left
              · intro V hV
                try dsimp only at hV
                go_simp
                all_goals with_reducible rfl
              try simp only [Act.put, List.setIfInBounds_toArray, List.set_cons_zero, List.set_cons_succ]
              refine wpAnyH_take (i := 10) (oi := ({ dst := some 143, op := Go.Op.fieldAddr 86 (Go.Operand.tmp 142) 2, type := 0, pos := "law.go:132", after := #[{ on := 9, ground := Go.Ground.data }, { on := 7, ground := Go.Ground.guard }], guard := some (7, false) } : Oper)) (v := ?_) rfl (by kernel_rfl) (by kernel_rfl) (by kernel_rfl) (fun _ _ _ h => h) (Or.inl ⟨by rfl, ?_⟩) (HS5.out _ (Below.refl _ _)) ?_
              rotate_left
              · intro V hV
                try dsimp only at hV
                go_simp
                all_goals with_reducible rfl
              try simp only [Act.put, List.setIfInBounds_toArray, List.set_cons_zero, List.set_cons_succ]
              refine wpAnyH_take (i := 11) (oi := ({ dst := some 144, op := Go.Op.load 64 (Go.Operand.tmp 143), type := 64, pos := "law.go:132", after := #[{ on := 10, ground := Go.Ground.data }, { on := 7, ground := Go.Ground.guard }], guard := some (7, false) } : Oper)) (v := ?_) rfl (by kernel_rfl) (by kernel_rfl) (by kernel_rfl) (fun _ _ _ h => h) (Or.inl ⟨by rfl, ?_⟩) (HS5.out _ (Below.refl _ _)) ?_
              rotate_left
              · intro V hV
                try dsimp only at hV
                go_simp
                all_goals with_reducible rfl
              try simp only [Act.put, List.setIfInBounds_toArray, List.set_cons_zero, List.set_cons_succ]
              refine wpAnyH_take (i := 12) (oi := ({ dst := some 145, op := Go.Op.move (Go.Operand.tmp 18), type := 84, pos := "law.go:132", after := #[{ on := 7, ground := Go.Ground.guard }], guard := some (7, false) } : Oper)) (v := ?_) rfl (by kernel_rfl) (by kernel_rfl) (by kernel_rfl) (fun _ _ _ h => h) (Or.inl ⟨by rfl, ?_⟩) (HS5.out _ (Below.refl _ _)) ?_
              rotate_left
              · intro V hV
                try dsimp only at hV
                go_simp
                all_goals with_reducible rfl
              try simp only [Act.put, List.setIfInBounds_toArray, List.set_cons_zero, List.set_cons_succ]
              refine wpAnyH_take (i := 13) (oi := ({ dst := some 146, op := Go.Op.nilCheck (Go.Operand.tmp 145), type := 0, pos := "law.go:132", after := #[{ on := 12, ground := Go.Ground.data }, { on := 7, ground := Go.Ground.guard }], guard := some (7, false) } : Oper)) (v := ?_) rfl (by kernel_rfl) (by kernel_rfl) (by kernel_rfl) (fun _ _ _ h => h) (Or.inl ⟨by rfl, ?_⟩) (HS5.out _ (Below.refl _ _)) ?_
              rotate_left
              · intro V hV
                try dsimp only at hV
                go_simp
                all_goals with_reducible rfl
              try simp only [Act.put, List.setIfInBounds_toArray, List.set_cons_zero, List.set_cons_succ]
              refine wpAnyH_take (i := 14) (oi := ({ dst := some 147, op := Go.Op.fieldAddr 86 (Go.Operand.tmp 146) 3, type := 0, pos := "law.go:132", after := #[{ on := 13, ground := Go.Ground.data }, { on := 7, ground := Go.Ground.guard }], guard := some (7, false) } : Oper)) (v := ?_) rfl (by kernel_rfl) (by kernel_rfl) (by kernel_rfl) (fun _ _ _ h => h) (Or.inl ⟨by rfl, ?_⟩) (HS5.out _ (Below.refl _ _)) ?_
              rotate_left
              · intro V hV
                try dsimp only at hV
                go_simp
                all_goals with_reducible rfl
              try simp only [Act.put, List.setIfInBounds_toArray, List.set_cons_zero, List.set_cons_succ]
              refine wpAnyH_take (i := 15) (oi := ({ dst := some 148, op := Go.Op.load 67 (Go.Operand.tmp 147), type := 67, pos := "law.go:132", after := #[{ on := 14, ground := Go.Ground.data }, { on := 7, ground := Go.Ground.guard }], guard := some (7, false) } : Oper)) (v := ?_) rfl (by kernel_rfl) (by kernel_rfl) (by kernel_rfl) (fun _ _ _ h => h) (Or.inl ⟨by rfl, ?_⟩) (HS5.out _ (Below.refl _ _)) ?_
              rotate_left
              · intro V hV
                try dsimp only at hV
                go_simp
                all_goals with_reducible rfl
              try simp only [Act.put, List.setIfInBounds_toArray, List.set_cons_zero, List.set_cons_succ]
              refine wpAnyH_one (i := 16) (o := ({ dst := some 149, op := Go.Op.call { callee := Go.Callee.value (Go.Operand.func 46), args := #[Go.Operand.tmp 144, Go.Operand.tmp 148], argTypes := #[64, 67] }, type := 4, pos := "law.go:132", after := #[{ on := 11, ground := Go.Ground.data }, { on := 15, ground := Go.Ground.data }, { on := 7, ground := Go.Ground.chain }, { on := 7, ground := Go.Ground.guard }], guard := some (7, false) } : Oper)) (by kernel_rfl) rfl (fun K2 hK2 => ?_)
              go_simp
              refine (same5_any HP5.out.duo.wal HP5.out.duo.ref (HP5.out.mod.modest (by omega))).mono ?_
              rintro e w6 ⟨rfl, hb6⟩
              have B6 := Lib.hid hb6
              have HP6 := Lib.hid (HP5.out.step hb6)
              clear hb6
              refine hK2 _ _ (HS5.out _ B6.out) ?_
              try simp only [Act.put, List.setIfInBounds_toArray, List.set_cons_zero, List.set_cons_succ]
              refine wpAnyH_take (i := 17) (oi := ({ dst := some 150, op := Go.Op.unOp Go.UnOp.not 4 (Go.Operand.tmp 149), type := 4, pos := "law.go:132", after := #[{ on := 16, ground := Go.Ground.data }, { on := 7, ground := Go.Ground.guard }], guard := some (7, false) } : Oper)) (v := ?_) rfl (by kernel_rfl) (by kernel_rfl) (by kernel_rfl) (fun _ _ _ h => h) (Or.inl ⟨by rfl, ?_⟩) (HS5.out _ B6.out) ?_
              rotate_left
              · intro V hV
                try dsimp only at hV
                go_simp
                all_goals with_reducible rfl
              try simp only [Act.put, List.setIfInBounds_toArray, List.set_cons_zero, List.set_cons_succ]
              refine wpAnyH_take (i := 18) (oi := ({ dst := some 151, op := Go.Op.pick (Go.Operand.tmp 140) (Go.Operand.const (Go.Value.bool true)) (Go.Operand.tmp 150), type := 4, pos := "law.go:132", after := #[{ on := 7, ground := Go.Ground.data }, { on := 17, ground := Go.Ground.data }], guard := none } : Oper)) (v := ?_) rfl (by kernel_rfl) (by kernel_rfl) (by kernel_rfl) (fun _ _ _ h => h) (Or.inl ⟨by rfl, ?_⟩) (HS5.out _ B6.out) ?_
              rotate_left
              · intro V hV
                try dsimp only at hV
                go_simp
                all_goals with_reducible rfl
              try simp only [Act.put, List.setIfInBounds_toArray, List.set_cons_zero, List.set_cons_succ]
              refine wpAnyH_take (i := 19) (oi := ({ dst := some 152, op := Go.Op.move (Go.Operand.tmp 151), type := 4, pos := "law.go:132", after := #[{ on := 18, ground := Go.Ground.data }, { on := 16, ground := Go.Ground.chain }], guard := none } : Oper)) (v := ?_) rfl (by kernel_rfl) (by kernel_rfl) (by kernel_rfl) (fun _ _ _ h => h) (Or.inl ⟨by rfl, ?_⟩) (HS5.out _ B6.out) ?_
              rotate_left
              · intro V hV
                try dsimp only at hV
                go_simp
                all_goals with_reducible rfl
              try simp only [Act.put, List.setIfInBounds_toArray, List.set_cons_zero, List.set_cons_succ]
              refine wpAnyH_take (i := 20) (oi := ({ dst := some 153, op := Go.Op.move (Go.Operand.tmp 18), type := 84, pos := "law.go:132", after := #[{ on := 19, ground := Go.Ground.guard }], guard := some (19, false) } : Oper)) (v := ?_) rfl (by kernel_rfl) (by kernel_rfl) (by kernel_rfl) (fun _ _ _ h => h) (Or.inl ⟨by rfl, ?_⟩) (HS5.out _ B6.out) ?_
              rotate_left
              · intro V hV
                try dsimp only at hV
                go_simp
                all_goals with_reducible rfl
              try simp only [Act.put, List.setIfInBounds_toArray, List.set_cons_zero, List.set_cons_succ]
              refine wpAnyH_take (i := 21) (oi := ({ dst := some 154, op := Go.Op.nilCheck (Go.Operand.tmp 153), type := 0, pos := "law.go:132", after := #[{ on := 20, ground := Go.Ground.data }, { on := 19, ground := Go.Ground.guard }], guard := some (19, false) } : Oper)) (v := ?_) rfl (by kernel_rfl) (by kernel_rfl) (by kernel_rfl) (fun _ _ _ h => h) (Or.inl ⟨by rfl, ?_⟩) (HS5.out _ B6.out) ?_
              rotate_left
              · intro V hV
                try dsimp only at hV
                go_simp
                all_goals with_reducible rfl
              try simp only [Act.put, List.setIfInBounds_toArray, List.set_cons_zero, List.set_cons_succ]
              refine wpAnyH_take (i := 22) (oi := ({ dst := some 155, op := Go.Op.fieldAddr 86 (Go.Operand.tmp 154) 0, type := 0, pos := "law.go:132", after := #[{ on := 21, ground := Go.Ground.data }, { on := 19, ground := Go.Ground.guard }], guard := some (19, false) } : Oper)) (v := ?_) rfl (by kernel_rfl) (by kernel_rfl) (by kernel_rfl) (fun _ _ _ h => h) (Or.inl ⟨by rfl, ?_⟩) (HS5.out _ B6.out) ?_
              rotate_left
              · intro V hV
                try dsimp only at hV
                go_simp
                all_goals with_reducible rfl
              try simp only [Act.put, List.setIfInBounds_toArray, List.set_cons_zero, List.set_cons_succ]
              refine wpAnyH_take (i := 23) (oi := ({ dst := some 156, op := Go.Op.load 40 (Go.Operand.tmp 155), type := 40, pos := "law.go:132", after := #[{ on := 22, ground := Go.Ground.data }, { on := 19, ground := Go.Ground.guard }], guard := some (19, false) } : Oper)) (v := ?_) rfl (by kernel_rfl) (by kernel_rfl) (by kernel_rfl) (fun _ _ _ h => h) (Or.inl ⟨by rfl, ?_⟩) (HS5.out _ B6.out) ?_
              rotate_left
              · intro V hV
                try dsimp only at hV
                go_simp
                all_goals with_reducible rfl
              try simp only [Act.put, List.setIfInBounds_toArray, List.set_cons_zero, List.set_cons_succ]
              refine wpAnyH_take (i := 24) (oi := ({ dst := some 157, op := Go.Op.move (Go.Operand.tmp 18), type := 84, pos := "law.go:132", after := #[{ on := 19, ground := Go.Ground.guard }], guard := some (19, false) } : Oper)) (v := ?_) rfl (by kernel_rfl) (by kernel_rfl) (by kernel_rfl) (fun _ _ _ h => h) (Or.inl ⟨by rfl, ?_⟩) (HS5.out _ B6.out) ?_
              rotate_left
              · intro V hV
                try dsimp only at hV
                go_simp
                all_goals with_reducible rfl
              try simp only [Act.put, List.setIfInBounds_toArray, List.set_cons_zero, List.set_cons_succ]
              refine wpAnyH_take (i := 25) (oi := ({ dst := some 158, op := Go.Op.nilCheck (Go.Operand.tmp 157), type := 0, pos := "law.go:132", after := #[{ on := 24, ground := Go.Ground.data }, { on := 19, ground := Go.Ground.guard }], guard := some (19, false) } : Oper)) (v := ?_) rfl (by kernel_rfl) (by kernel_rfl) (by kernel_rfl) (fun _ _ _ h => h) (Or.inl ⟨by rfl, ?_⟩) (HS5.out _ B6.out) ?_
              rotate_left
              · intro V hV
                try dsimp only at hV
                go_simp
                all_goals with_reducible rfl
              try simp only [Act.put, List.setIfInBounds_toArray, List.set_cons_zero, List.set_cons_succ]
              refine wpAnyH_take (i := 26) (oi := ({ dst := some 159, op := Go.Op.fieldAddr 86 (Go.Operand.tmp 158) 1, type := 0, pos := "law.go:132", after := #[{ on := 25, ground := Go.Ground.data }, { on := 19, ground := Go.Ground.guard }], guard := some (19, false) } : Oper)) (v := ?_) rfl (by kernel_rfl) (by kernel_rfl) (by kernel_rfl) (fun _ _ _ h => h) (Or.inl ⟨by rfl, ?_⟩) (HS5.out _ B6.out) ?_
              rotate_left
              · intro V hV
                try dsimp only at hV
                go_simp
                all_goals with_reducible rfl
              try simp only [Act.put, List.setIfInBounds_toArray, List.set_cons_zero, List.set_cons_succ]
              refine wpAnyH_take (i := 27) (oi := ({ dst := some 160, op := Go.Op.load 56 (Go.Operand.tmp 159), type := 56, pos := "law.go:132", after := #[{ on := 26, ground := Go.Ground.data }, { on := 19, ground := Go.Ground.guard }], guard := some (19, false) } : Oper)) (v := ?_) rfl (by kernel_rfl) (by kernel_rfl) (by kernel_rfl) (fun _ _ _ h => h) (Or.inl ⟨by rfl, ?_⟩) (HS5.out _ B6.out) ?_
              rotate_left
              · intro V hV
                try dsimp only at hV
                go_simp
                all_goals with_reducible rfl
              try simp only [Act.put, List.setIfInBounds_toArray, List.set_cons_zero, List.set_cons_succ]
              refine wpAnyH_one (i := 28) (o := ({ dst := some 161, op := Go.Op.call { callee := Go.Callee.value (Go.Operand.func 38), args := #[Go.Operand.tmp 156, Go.Operand.tmp 160], argTypes := #[40, 56] }, type := 4, pos := "law.go:132", after := #[{ on := 23, ground := Go.Ground.data }, { on := 27, ground := Go.Ground.data }, { on := 19, ground := Go.Ground.chain }, { on := 19, ground := Go.Ground.guard }], guard := some (19, false) } : Oper)) (by kernel_rfl) rfl (fun K3 hK3 => ?_)
              go_simp
              refine (same_any HP6.out.duo.both (by have := HP6.out.loose; omega)).mono ?_
              rintro e w7 ⟨rfl, hb7⟩
              have B7 := Lib.hid (B6.out.trans (hb7.mono B6.out.size))
              have HP7 := Lib.hid (HP6.out.step hb7)
              clear hb7
              refine hK3 _ _ (HS5.out _ B7.out) ?_
              try simp only [Act.put, List.setIfInBounds_toArray, List.set_cons_zero, List.set_cons_succ]
              refine wpAnyH_take (i := 29) (oi := ({ dst := some 162, op := Go.Op.unOp Go.UnOp.not 4 (Go.Operand.tmp 161), type := 4, pos := "law.go:132", after := #[{ on := 28, ground := Go.Ground.data }, { on := 19, ground := Go.Ground.guard }], guard := some (19, false) } : Oper)) (v := ?_) rfl (by kernel_rfl) (by kernel_rfl) (by kernel_rfl) (fun _ _ _ h => h) (Or.inl ⟨by rfl, ?_⟩) (HS5.out _ B7.out) ?_
              rotate_left
              · intro V hV
                try dsimp only at hV
                go_simp
                all_goals with_reducible rfl
              try simp only [Act.put, List.setIfInBounds_toArray, List.set_cons_zero, List.set_cons_succ]
              refine wpAnyH_take (i := 30) (oi := ({ dst := some 163, op := Go.Op.pick (Go.Operand.tmp 152) (Go.Operand.const (Go.Value.bool true)) (Go.Operand.tmp 162), type := 4, pos := "law.go:132", after := #[{ on := 19, ground := Go.Ground.data }, { on := 29, ground := Go.Ground.data }], guard := none } : Oper)) (v := ?_) rfl (by kernel_rfl) (by kernel_rfl) (by kernel_rfl) (fun _ _ _ h => h) (Or.inl ⟨by rfl, ?_⟩) (HS5.out _ B7.out) ?_
              rotate_left
              · intro V hV
                try dsimp only at hV
                go_simp
                all_goals with_reducible rfl
              try simp only [Act.put, List.setIfInBounds_toArray, List.set_cons_zero, List.set_cons_succ]
              refine wpAnyH_done (by kernel_rfl) ?_ _
              clear hK1 hK2 hK3 K1 K2 K3
              go_wp2_with fail
              go_roundw
              case rel => exact ⟨k + 1, by omega, by go_num, _, _, _, _, _, _, _, _, HP7.out⟩
              case measure => simp [intOf]; omega
            · obtain rfl : k = l.length := by omega
              go_wp2_with fail
              refine (alive5_any _).mono ?_
              rintro e w10 ⟨rfl, hb⟩
              have HB10 := Lib.hid (HST.out.step hb).duo.both.my.below
              clear hb
              go_wp2_with fail
              go_ret
              exact ⟨rfl, HB10.out⟩
set_option maxRecDepth 100000 in
theorem walPlays_any {H : Type} {enc : TypeId × Value → H} {base3 base4 : Nat} (W : World) (N : Int) (_ : (Lit.int .i64 N).wf = true) (F : Int) (hF : (Lit.int .i64 F).wf = true) (M : Int) (hM : (Lit.int .i64 M).wf = true) (v : Value) (d : DataW H) (p : List MemPlace)
    (ho : Value.okWide Try.prog W .any base3 72 v) (h : DataW.Trod enc Try.prog W 0 (fun _ => true) true 72 v d p) (hz : ∀ n ∈ DataW.weights Try.prog 72 d, (decide (n ≤ reachBytes)) = true)
    (v4 : Value) (d4 : DataW H) (p4 : List MemPlace) (ho4 : Value.okWide Try.prog W .any base4 31 v4) (h4 : DataW.Trod enc Try.prog W 0 (fun _ => true) true 31 v4 d4 p4) (hz4 : ∀ n ∈ DataW.weights Try.prog 31 d4, (decide (n ≤ reachBytes)) = true) :
    Calls Try.prog 12 #[.int .i64 N, .int .i64 F, .int .i64 M, v, v4] W fun e w' => e = .returned (.bool true) ∧ Below W.heap.size W w' := by
  obtain ⟨a, cap, l, rfl, h1, h2, h3⟩ := wsteps_of_trod ho h hz
  obtain ⟨lg, hg⟩ := texts_of_trod ho4 h4 hz4
  exact walPlays_walk W N F M hF hM a cap l h1 h2 h3 v4 lg hg
end Go.Proofs.Ythbdflmckfgleaa
