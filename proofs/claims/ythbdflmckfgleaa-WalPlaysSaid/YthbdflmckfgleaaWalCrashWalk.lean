/- maslinlaw05.WalCrash, walked. -/
import Derived.Test.YthbdflmckfgleaaWalReadsWalk
import Derived.Test.YthbdflmckfgleaaWalHeavy
import Derived.Test.YthbdflmckfgleaaRegionT
import Derived.Deep.CutRange
import Derived.Deep.CutBlock
namespace Go.Proofs.Ythbdflmckfgleaa
open Go.RowKit Go.Maps
open Wal

theorem step_copy_texts {w : World} {ops : Array Oper} {o : Oper} {a : Act} {K : Act → World → Prop} {Q : Exit → Act → World → Prop} {E : Prop} (hgd : o.guard = none) (s x : Operand)
    (ho : o.op = .call { callee := .builtin .append, args := #[s, x], argTypes := #[31, 31] }) (hs : a.eval s = .slice none 0 0) (ad : Option Addr) (cap : Nat) (l : List (List UInt8)) (hx : a.eval x = .slice ad l.length cap)
    (ht : TextsAt w ad l) (hz : ad = none → cap = 0) (hlen : l.length ≤ 1000000000)
    (h : ∀ v' w', w'.ownsRow 0 9 1 v' l.length (strCells l) → Below w.heap.size w w' → (∀ g, v'.ownBlock = some g → w.heap.size ≤ g) → K (a.put o.dst v') w') :
    if Region.wanted o (yielded ops a.tmps) = true then Oper.wp Try.prog o a w K Q else E := by
  have hw : Region.wanted o (yielded ops a.tmps) = true := by simp [Region.wanted, hgd]
  rw [if_pos hw]
  obtain ⟨v', w', hr, h2, h3, h4⟩ := run_copy_texts w o.type ad cap l ht hz hlen
  unfold Oper.wp execOp
  simp only [ho, resolve, invoke, builtin, Sem.run_bind, Sem.run_pure, Result.andThen_ok, List.map_toArray, List.map_cons, List.map_nil, hs, hx, hr]
  exact h v' w' h2 h3 h4

theorem rowLen_tcost (l : List (List UInt8)) : rowLen l ≤ 2 + tcost l := by
  unfold rowLen tcost
  have h : ∀ (l : List (List UInt8)), (l.map fun s => 2 + s.length).sum ≤ (l.map fun s => 4 + s.length).sum := by
    intro l
    induction l with
    | nil => simp
    | cons x l ih => simp only [List.map_cons, List.sum_cons]; omega
  have := h l
  omega
theorem WLight.at_ {l : List WStp} (h : WLight l) : ∀ x ∈ l, rowLen x.l ≤ 8194 ∧ x.l.length ≤ 60 ∧ x.keep.length ≤ 8192 := fun x hx => by
  have h1 := wcosts_mem l x hx
  have h2 := h.cost
  have h3 := rowLen_tcost x.l
  unfold WStp.cost at h1
  exact ⟨by omega, h.rows x hx, by omega⟩
theorem Sound.modest {D : Dsk} {L : WLog} (h : Sound D L) : Modest L := by
  have ho := h.openS_crash []
  have hn := h.fine.n2
  have hn2 := h.n
  have hm := h.min
  have hF := h.fine.crash []
  have hlen : (Dsk.text (D.crash []).base 0 L.n).length = 64 * L.n := Dsk.text_length hF.base 0 L.n (by show 0 + L.n ≤ D.n; omega)
  obtain ⟨h1, _, h3, _⟩ := openS_some ho (by omega) (by omega)
  obtain ⟨g1, g2⟩ := groupsE_bound h3
  have hl : ((List.drop 64 (Dsk.text (D.crash []).base 0 L.n)).take (64 * L.used)).length ≤ 64 * L.used := by rw [List.length_take]; omega
  exact ⟨by omega, fun l hl2 => by have := g2 l hl2; omega⟩
theorem wappend_cases (D : Dsk) (L : WLog) (l : List (List UInt8)) :
    (wappend D L l).2.1.n = L.n ∧ (wappend D L l).2.1.gen = L.gen ∧ (((wappend D L l).2.2 = 0 ∧ (wappend D L l).2.1.groups = L.groups ++ [l] ∧ L.fault = 0) ∨ ((wappend D L l).2.2 ≠ 0 ∧ (wappend D L l).2.1.groups = L.groups)) := by
  unfold wappend
  split
  · rename_i h; exact ⟨rfl, rfl, .inr ⟨h, rfl⟩⟩
  · rename_i h0
    split
    · exact ⟨rfl, rfl, .inr ⟨(by decide : (5 : Int) ≠ 0), rfl⟩⟩
    · split
      · exact ⟨rfl, rfl, .inr ⟨(by decide : (4 : Int) ≠ 0), rfl⟩⟩
      · split
        · exact ⟨rfl, rfl, .inl ⟨rfl, rfl, by omega⟩⟩
        · rename_i h; exact ⟨rfl, rfl, .inr ⟨h, rfl⟩⟩
theorem wreset_cases (D : Dsk) (L : WLog) :
    (wreset D L).2.1.n = L.n ∧ (((wreset D L).2.2 = 0 ∧ (wreset D L).2.1.groups = [] ∧ (wreset D L).2.1.gen = (L.gen + 1) % 18446744073709551616) ∨ ((wreset D L).2.2 ≠ 0 ∧ (wreset D L).2.1.groups = L.groups ∧ (wreset D L).2.1.gen = L.gen)) := by
  unfold wreset
  split
  · rename_i h; exact ⟨rfl, .inr ⟨h, rfl, rfl⟩⟩
  · split
    · exact ⟨rfl, .inl ⟨rfl, rfl, rfl⟩⟩
    · rename_i h; exact ⟨rfl, .inr ⟨h, rfl, rfl⟩⟩
theorem groupE_small {l : List (List UInt8)} {s : List UInt8} (h : groupE l = some s) : s.length ≤ rowLen l + 68 := by
  have := groupV_length l
  unfold groupV at this
  rw [h] at this
  exact this
theorem wappend_loose (D : Dsk) (L : WLog) (l : List (List UInt8)) (hl : rowLen l ≤ 8194) : (wappend D L l).1.loose.length ≤ D.loose.length + 1000 := by
  unfold wappend
  split
  · show D.loose.length ≤ _; omega
  · split
    · show D.loose.length ≤ _; omega
    · rename_i s hs
      have hsm := groupE_small hs
      have hd : (doS (L.acts s) D).1.loose.length ≤ D.loose.length + 200 * (L.acts s).length := doS_loose 200 _ D (fun f hf D => by
        unfold WLog.acts at hf
        simp only [List.mem_cons, List.not_mem_nil, or_false] at hf
        rcases hf with rfl | rfl | rfl | rfl
        · have := Dsk.write_loose D ((L.from_ + 1 + L.used : Nat) : Int) s
          show (D.write ((L.from_ + 1 + L.used : Nat) : Int) s).1.loose.length ≤ _
          omega
        · have := Dsk.flush_loose D
          omega
        · have := Dsk.write_loose D (L.from_ : Int) (Wal.mark L.gen (L.used + s.length / 64))
          rw [Wal.mark_length] at this
          show (D.write (L.from_ : Int) (Wal.mark L.gen (L.used + s.length / 64))).1.loose.length ≤ _
          omega
        · have := Dsk.flush_loose D
          omega)
      have h4 : (L.acts s).length = 4 := rfl
      rw [h4] at hd
      split
      · show D.loose.length ≤ _; omega
      · split
        · show (doS (L.acts s) D).1.loose.length ≤ _; omega
        · show (doS (L.acts s) D).1.loose.length ≤ _; omega
theorem wreset_loose (D : Dsk) (L : WLog) : (wreset D L).1.loose.length ≤ D.loose.length + 1000 := by
  have hd : (doS L.racts D).1.loose.length ≤ D.loose.length + 200 * L.racts.length := doS_loose 200 _ D (fun f hf D => by
    unfold WLog.racts at hf
    simp only [List.mem_cons, List.not_mem_nil, or_false] at hf
    rcases hf with rfl | rfl
    · have := Dsk.write_loose D (L.from_ : Int) (Wal.mark ((L.gen + 1) % 18446744073709551616) 0)
      rw [Wal.mark_length] at this
      show (D.write (L.from_ : Int) (Wal.mark ((L.gen + 1) % 18446744073709551616) 0)).1.loose.length ≤ _
      omega
    · have := Dsk.flush_loose D
      omega)
  have h4 : L.racts.length = 2 := rfl
  rw [h4] at hd
  unfold wreset
  split
  · show D.loose.length ≤ _; omega
  · split
    · show (doS L.racts D).1.loose.length ≤ _; omega
    · show (doS L.racts D).1.loose.length ≤ _; omega

/-- What stands at a round's head. -/
structure CrashSt (B : Nat) (w0 w : World) (b N k x : Nat) (D : Dsk) (fp : Nat → Prop) (gv : Value) (L : WLog) (sv mv uv : Value) : Prop where
  log : MyLog B w0 w b D fp x gv L
  sound : Sound D L
  n : L.n = N
  loose : D.loose.length ≤ 1000 * k
  sure : GroupsAt w sv L.groups
  snew : ∀ g, sv.ownBlock = some g → ¬ walBlocks x gv g
  maybe : ∃ q n c, mv = .slice q n c
  under : ∃ u, uv = .bool u
section
variable {B : Nat} {w0 w w' : World} {b N k x : Nat} {D D' : Dsk} {fp fp' : Nat → Prop} {gv gv' : Value} {L L' : WLog} {sv sv' mv mv' uv uv' : Value}
theorem GroupsAt.lt {w : World} {v : Value} {L : List (List (List UInt8))} (h : GroupsAt w v L) {g : Nat} (hg : v.ownBlock = some g) : g < w.heap.size := by
  obtain ⟨cs, h1, _⟩ := h
  exact ownsRow_lt h1 hg
theorem CrashSt.step (h : CrashSt B w0 w b N k x D fp gv L sv mv uv) (hb : Below w.heap.size w w') : CrashSt B w0 w' b N k x D fp gv L sv mv uv :=
  ⟨h.log.step hb, h.sound, h.n, h.loose, h.sure.below hb, h.snew, h.maybe, h.under⟩
/-- What is sure, behind something that was done to the log and the disk. -/
theorem CrashSt.past (h : CrashSt B w0 w b N k x D fp gv L sv mv uv) (hu : Upd (fun k => fp k ∨ walBlocks x gv k) w w') (hs2 : Stays (walBlocks x gv) (walBlocks x gv') w) : GroupsAt w' sv L.groups ∧ ∀ g, sv.ownBlock = some g → ¬ walBlocks x gv' g := by
  have hsb : ∀ g, sv.ownBlock = some g → BlkOf w g 31 := fun g hg => by
    obtain ⟨cs, h1, _⟩ := h.sure
    exact ownsRow_blk h1 hg
  refine ⟨h.sure.upd hu (fun k hk hf => ?_) (fun g hg hf => ?_), fun g hg hw => ?_⟩
  · rcases hf with hf | (rfl | hf)
    · exact (h.log.my.disk.kinds k hf).1 hk
    · exact BlkOf.ne hk ⟨_, _, h.log.wal.struct⟩ (by decide) rfl
    · obtain ⟨cs, h1, _⟩ := h.log.wal.groups
      exact BlkOf.ne hk (ownsRow_blk h1 hf) (by decide) rfl
  · rcases hf with hf | hf
    · exact (h.log.my.disk.kinds g hf).2 (hsb g hg)
    · exact h.snew g hg hf
  · rcases hs2 g hw with h1 | h1
    · exact h.snew g hg h1
    · have := h.sure.lt hg; omega
/-- The log, and its disk, turned; what is sure did not. -/
theorem CrashSt.turn (h : CrashSt B w0 w b N k x D fp gv L sv mv uv) (hd : DiskAt w' b D' fp') (hl : WalIn w' x b gv' L') (hu : Upd (fun k => fp k ∨ walBlocks x gv k) w w') (hs : Stays fp fp' w) (hs2 : Stays (walBlocks x gv) (walBlocks x gv') w)
    (hS : Sound D' L') (hn : L'.n = L.n) (hlo : D'.loose.length ≤ 1000 * (k + 1)) (hg : L'.groups = L.groups) : CrashSt B w0 w' b N (k + 1) x D' fp' gv' L' sv mv uv := by
  obtain ⟨g1, g2⟩ := h.past hu hs2
  exact ⟨h.log.turn hd hl hu hs hs2, hS, hn.trans h.n, hlo, by rw [hg]; exact g1, g2, h.maybe, h.under⟩
theorem CrashSt.more (h : CrashSt B w0 w b N k x D fp gv L sv mv uv) : CrashSt B w0 w b N (k + 1) x D fp gv L sv mv uv :=
  ⟨h.log, h.sound, h.n, by have := h.loose; omega, h.sure, h.snew, h.maybe, h.under⟩
theorem CrashSt.doubt (h : CrashSt B w0 w b N k x D fp gv L sv mv uv) (hm : ∃ q n c, mv' = .slice q n c) (hu : ∃ u, uv' = .bool u) : CrashSt B w0 w b N k x D fp gv L sv mv' uv' :=
  ⟨h.log, h.sound, h.n, h.loose, h.sure, h.snew, hm, hu⟩
theorem CrashSt.surely (h : CrashSt B w0 w b N k x D fp gv L sv mv uv) (hb : Below w.heap.size w w') (hg : GroupsAt w' sv' L.groups) (hn : ∀ g, sv'.ownBlock = some g → w.heap.size ≤ g) : CrashSt B w0 w' b N k x D fp gv L sv' mv uv :=
  ⟨h.log.step hb, h.sound, h.n, h.loose, hg, fun g hg hw => by have := hn g hg; have := h.log.wal.lt g hw; omega, h.maybe, h.under⟩
end

set_option maxRecDepth 100000 in
set_option maxHeartbeats 8000000 in
theorem walCrash_walk (W : World) (N : Int) (hN : (Lit.int .i64 N).wf = true) (a : Option Addr) (cap : Nat) (l : List WStp) (hl : WStepsAt W a l) (hlen : l.length ≤ maxLen) (hok : ∀ x ∈ l, x.okay) :
    Calls Try.prog 11 #[.int .i64 N, .slice a l.length cap] W fun e w' => e = .returned (.bool true) ∧ Below W.heap.size W w' := by
  have HL := Lib.hid hl
  have HOK := Lib.hid hok
  have HLEN := Lib.hid hlen
  have hlen2 := hlen
  unfold maxLen at hlen2
  clear hl hok hlen
  go_enter Try.func11, Try.ntmps11
  go_wp2_with fail
  refine (wheavy_any N a cap l W HL.out HLEN.out HOK.out).mono ?_
  rintro e w1 ⟨hv, rfl, rfl, himp⟩
  cases hv with
  | true =>
    clear himp
    go_wp2_with fail
    refine (alive5_any _).mono ?_
    rintro e w2 ⟨rfl, hb⟩
    go_wp2_with fail
    go_ret
    exact ⟨rfl, hb⟩
  | false =>
    obtain ⟨hLight, h100⟩ := himp rfl
    have HALL := Lib.hid hLight.at_
    have hlen60 := hLight.len
    clear himp hLight
    by_cases h2 : N < 2
    · go_wp2_with fail
      refine (alive5_any _).mono ?_
      rintro e w2 ⟨rfl, hb⟩
      go_wp2_with fail
      go_ret
      exact ⟨rfl, hb⟩
    obtain ⟨n, rfl⟩ : ∃ n : Nat, N = (n : Int) := ⟨N.toNat, by omega⟩
    have hn2 : 2 ≤ n := by omega
    have hn100 : n ≤ 100 := by omega
    have HS0 := Lib.hid (Sound.new n hn2 (by omega))
    have HO0 := Lib.hid (HS0.out.openW rfl)
    clear h2 h100
    go_wp2_with fail
    refine (new_my (Below.refl W.heap.size W) (Nat.le_refl _) n (by omega) (by omega)).mono ?_
    rintro e w2 ⟨b, fp0, rfl, h0⟩
    have H0 := Lib.hid h0
    clear h0
    go_wp2_with fail
    refine (open_log H0.out 0 n (by omega) (by omega) HO0.out).mono ?_
    rintro e w3 ⟨x0, gv0, rfl, h1, _, _⟩
    have H1 := Lib.hid h1
    clear h1
    go_wp2_with fail
    go_loopw [7, 9, 10, 11, 12, 13] (fun wv sv mv uv ge i wr => ∃ (k x : Nat) (D : Dsk) (fp : Nat → Prop) (gv : Value) (L : WLog), k ≤ l.length ∧ i = .int .i64 k ∧ wv = .pointer (some ⟨x, 0, none⟩) ∧ ge = .int .u64 (L.gen : Int) ∧ CrashSt W.heap.size W wr b n k x D fp gv L sv mv uv) (fun _ _ _ _ _ i _ => l.length - (intOf i).toNat)
    case atStart => exact ⟨0, x0, Dsk.new n, fp0, gv0, ⟨0, n, 0, 0, [], 0⟩, by omega, rfl, rfl, rfl, ⟨H1.out, HS0.out, rfl, by show (0 : Nat) ≤ _; omega, GroupsAt.none _, fun g e => by simp [Value.ownBlock] at e, ⟨_, _, _, rfl⟩, ⟨_, rfl⟩⟩⟩
    case round =>
      clear H0 H1 HS0 HO0
      obtain ⟨k, x1, D, fp, gv, L, hk, rfl, rfl, rfl, hst⟩ := hrel
      have HST := Lib.hid hst
      by_cases hlt : k < l.length
      · obtain ⟨q, hidx, hat⟩ := HL.out.index cap k hlt
        obtain ⟨ha1, ha2, ha3⟩ := HALL.out l[k] (List.getElem_mem hlt)
        obtain ⟨ho1, ho2, _⟩ := HOK.out l[k] (List.getElem_mem hlt)
        obtain ⟨d0, d1, ⟨tv, d2, ⟨⟨ta, tc, rfl, htxW, htc⟩, _, _⟩⟩, d3⟩ := hat.cells
        have hbW : Below W.heap.size W wr := hst.log.my.below
        have c0 := (hbW.cell (block_lt_of_cell d0)).trans d0
        have c1 := (hbW.cell (block_lt_of_cell d1)).trans d1
        have c2 := (hbW.cell (block_lt_of_cell d2)).trans d2
        have c3 := (hbW.cell (block_lt_of_cell d3)).trans d3
        have HO2 := Lib.hid (i64_of ho2)
        have HTX0 := Lib.hid (htxW.below hbW); have HTC := Lib.hid htc; have HTW0 := Lib.hid htxW
        obtain ⟨⟨q1, q2, q3, rfl⟩, ⟨u, rfl⟩⟩ := And.intro hst.maybe hst.under
        clear hat ho1 ho2 htxW htc hst hbW d0 d1 d2 d3
        generalize l[k] = x at *
        obtain ⟨wo, rfl⟩ : ∃ wo : World, wo = wr := ⟨_, rfl⟩
        go_upto_block 2 with fail
        go_cut [7, 9, 10, 11, 12, 15, 16, 17, 18, 19, 20, 21] from 67 to 171 (fun s7 s9 s10 s11 s12 _ _ _ _ _ _ _ wx => ∃ (y : Nat) (D' : Dsk) (fp' : Nat → Prop) (gv' : Value) (L' : WLog), s7 = .pointer (some ⟨y, 0, none⟩) ∧ s12 = .int .u64 (L'.gen : Int) ∧ CrashSt W.heap.size W wx b n (k + 1) y D' fp' gv' L' s9 s10 s11)
        case first =>
          have hb4 : Below wo.heap.size wo (wo.alloc (.cells #[.int .i64 x.what, .int .i64 x.n, .slice ta x.l.length tc, .string (bs x.keep)] 76)) := (Below.refl _ _).alloc (Nat.le_refl _) _
          have HSB := Lib.hid (heap_alloc_new wo (.cells #[.int .i64 x.what, .int .i64 x.n, .slice ta x.l.length tc, .string (bs x.keep)] 76))
          have HI := Lib.hid (HST.out.step hb4)
          have HTXI := Lib.hid (HTX0.out.below hb4)
          have hfpl := HST.out.log.my.disk.lt
          have hwbl := HST.out.log.wal.lt
          have HNSB := Lib.hid (show ¬ (fp wo.heap.size ∨ walBlocks x1 gv wo.heap.size) from fun h => h.elim (fun h => Nat.lt_irrefl _ (hfpl _ h)) (fun h => Nat.lt_irrefl _ (hwbl _ h)))
          have HOLD := Lib.hid (show ∀ p, ta = some p → x.l ≠ [] → ¬ fp p.block ∧ ¬ walBlocks x1 gv p.block from fun p hp hne => by
            have h1 := TextsAt.old (w := W) (a := ta) (l := x.l) HTW0.out p hp hne
            exact ⟨fun h => by have := HST.out.log.my.new _ h; omega, fun h => by have := HST.out.log.wnew _ h; omega⟩)
          have HMD := Lib.hid HI.out.sound.modest
          have hloo := HI.out.loose
          clear hb4 hfpl hwbl c0 c1 c2 c3 HTW0 HST HTX0
          obtain ⟨sb, hsb⟩ : ∃ sb, sb = wo.heap.size := ⟨_, rfl⟩
          rw [← hsb] at HSB HNSB
          generalize wo.alloc (.cells #[.int .i64 x.what, .int .i64 x.n, .slice ta x.l.length tc, .string (bs x.keep)] 76) = wi at *
          rw [← hsb]
          have HSQ := Lib.hid hsb
          clear hsb
          have s0 : wi.cell? ⟨sb, 0, none⟩ = some (.int .i64 x.what) := by rw [cell_of_row wi _ _ _ _ _ HSB.out]; rfl
          have s1 : wi.cell? ⟨sb, 1, none⟩ = some (.int .i64 x.n) := by rw [cell_of_row wi _ _ _ _ _ HSB.out]; rfl
          have s2 : wi.cell? ⟨sb, 2, none⟩ = some (.slice ta x.l.length tc) := by rw [cell_of_row wi _ _ _ _ _ HSB.out]; rfl
          have s3 : wi.cell? ⟨sb, 3, none⟩ = some (.string (bs x.keep)) := by rw [cell_of_row wi _ _ _ _ _ HSB.out]; rfl
          by_cases h0 : x.what = 0
          · have hb0 : (x.what == 0) = true := by simp [h0]
            clear h0 s0 s1 s3
            have hap := append_any HI.out.log.my.disk HI.out.log.wal HTXI.out (cap := tc) HOLD.out (by omega) (by omega) (by omega) HMD.out.groups
            have hS := HI.out.sound.append x.l
            obtain ⟨e1, e2, e3⟩ := wappend_cases D L x.l
            have elo := wappend_loose D L x.l ha1
            obtain ⟨D5, L5, k5, hr⟩ : ∃ D5 L5 k5, wappend D L x.l = (D5, L5, k5) := ⟨_, _, _, rfl⟩
            rw [hr] at hap hS e1 e2 e3 elo
            have HAP := Lib.hid hap
            have HS5 := Lib.hid (show Sound D5 L5 from hS)
            have HE1 := Lib.hid (show L5.n = L.n from e1)
            have HE2 := Lib.hid (show L5.gen = L.gen from e2)
            have elo2 : D5.loose.length ≤ 1000 * (k + 1) := by have : D5.loose.length ≤ D.loose.length + 1000 := elo; omega
            have HLO := Lib.hid elo2
            clear hap hS hr e1 e2 elo elo2
            go_wp2_with fail
            refine (walFault_any HI.out.log.wal).mono ?_
            rintro e wf ⟨rfl, rfl⟩
            go_wp2_with fail
            refine HAP.out.mono ?_
            rintro e w4 ⟨rfl, fp5, gv5, g1, g2, g3, g4, g5⟩
            have g1 : DiskAt w4 b D5 fp5 := g1
            have g2 : WalIn w4 x1 b gv5 L5 := g2
            have HLG := Lib.hid (HI.out.log.turn g1 g2 g3 g4 g5)
            have HPA := Lib.hid (HI.out.past g3 g5)
            have HSU := Lib.hid HPA.out.1
            have HTX := Lib.hid (HTXI.out.upd g3 (fun p hp hne hk => hk.elim (HOLD.out p hp hne).1 (HOLD.out p hp hne).2))
            have s2 : w4.cell? ⟨sb, 2, none⟩ = some (.slice ta x.l.length tc) := (g3.cell (p := ⟨sb, 2, none⟩) (blk_lt HSB.out) HNSB.out).trans s2
            have HTURN := Lib.hid (show L5.groups = L.groups → CrashSt W.heap.size W w4 b n (k + 1) x1 D5 fp5 gv5 L5 u9 (.slice q1 q2 q3) (.bool u) from fun h => HI.out.turn g1 g2 g3 g4 g5 HS5.out HE1.out HLO.out h)
            have hgn := HMD.out.groups
            have e3' : (k5 = 0 ∧ L5.groups = L.groups ++ [x.l] ∧ L.fault = 0) ∨ (k5 ≠ 0 ∧ L5.groups = L.groups) := e3
            clear g1 g2 g3 g4 g5 e3
            rcases e3' with ⟨hk0, hgr, _⟩ | ⟨hk0, hgr⟩
            · have HGR := Lib.hid hgr
              clear hgr
              subst hk0
              go_wp2_with fail
              have HKP := Lib.hid (fun (V : World) (hb : Below w4.heap.size w4 V) => (show (fun V : World => V.cell? ⟨sb, 2, none⟩ = some (.slice ta x.l.length tc)) V from (hb.cell (p := ⟨sb, 2, none⟩) (block_lt_of_cell s2)).trans s2))
              have B1 := Lib.hid (show Below w4.heap.size w4 w4.drew from (Below.refl _ _).drew)
              obtain ⟨cs, hc1, hc2, hc3, hc4⟩ := HSU.out
              have HC1 := Lib.hid hc1; have HC2 := Lib.hid hc2; have HC3 := Lib.hid hc3; have HC4 := Lib.hid hc4
              obtain ⟨qs, cc, rfl⟩ := slice_len hc1
              obtain ⟨i0, hi0, hz0, hz1, hz2⟩ := info_parts rows_info
              clear hc1 hc2 hc3 hc4 s2
              refine wp_region_T (z := 7) (S := (fun V : World => V.cell? ⟨sb, 2, none⟩ = some (.slice ta x.l.length tc))) (by kernel_rfl) ?_
              refine wpAnyT_take (i := 0) (oi := ({ dst := some 77, op := Go.Op.move (Go.Operand.tmp 9), type := 43, pos := "law.go:177", after := #[], guard := none } : Oper)) (v := ?_) rfl (by kernel_rfl) (by kernel_rfl) (by kernel_rfl) (by kernel_rfl) (fun _ _ _ h => h) (Or.inl ⟨by rfl, ?_⟩) (HKP.out _ B1.out) ?_
              rotate_left
              · intro V hV
                try dsimp only at hV
                go_simp
                all_goals with_reducible rfl
              try simp only [Act.put, List.setIfInBounds_toArray, List.set_cons_zero, List.set_cons_succ]
              refine wpAnyT_take (i := 2) (oi := ({ dst := some 79, op := Go.Op.fieldAddr 76 (Go.Operand.tmp 14) 2, type := 0, pos := "law.go:177", after := #[], guard := none } : Oper)) (v := ?_) rfl (by kernel_rfl) (by kernel_rfl) (by kernel_rfl) (by kernel_rfl) (fun _ _ _ h => h) (Or.inl ⟨by rfl, ?_⟩) (HKP.out _ B1.out) ?_
              rotate_left
              · intro V hV
                try dsimp only at hV
                go_simp
                all_goals with_reducible rfl
              try simp only [Act.put, List.setIfInBounds_toArray, List.set_cons_zero, List.set_cons_succ]
              refine wpAnyT_take (i := 3) (oi := ({ dst := some 80, op := Go.Op.load 31 (Go.Operand.tmp 79), type := 31, pos := "law.go:177", after := #[{ on := 2, ground := Go.Ground.data }], guard := none } : Oper)) (v := ?_) rfl (by kernel_rfl) (by kernel_rfl) (by kernel_rfl) (by kernel_rfl) (fun _ _ _ h => h) (Or.inl ⟨by rfl, ?_⟩) (HKP.out _ B1.out) ?_
              rotate_left
              · intro V hV
                try dsimp only at hV
                go_simp
                all_goals with_reducible rfl
              try simp only [Act.put, List.setIfInBounds_toArray, List.set_cons_zero, List.set_cons_succ]
              refine wpAnyT_one (i := 1) (o := ({ dst := some 78, op := Go.Op.call { callee := Go.Callee.builtin Go.Builtin.append, args := #[Go.Operand.const (Go.Value.slice none 0 0), Go.Operand.tmp 77], argTypes := #[43, 43] }, type := 43, pos := "law.go:177", after := #[{ on := 0, ground := Go.Ground.data }], guard := none } : Oper)) (by kernel_rfl) rfl (fun K1 hK1 => ?_)
              refine step_copy_row (by rfl) _ _ 43 (by rfl) (by rfl) (.slice qs L.groups.length cc) (by rfl) 31 i0 _ 1 24 Try.underlying43 hi0 hz0 hz1 hz2 (by rfl) (by omega) L.groups.length cs HC3.out (row_below HC1.out B1.out) (by unfold maxLen; omega) (by omega) ?_
              intro va wA hA hBA hNA
              obtain ⟨qA, cA, rfl⟩ := slice_len hA
              have B2 := Lib.hid (B1.out.trans (hBA.mono B1.out.size))
              have HA := Lib.hid hA; have HNA := Lib.hid (show ∀ g, (Value.slice qA L.groups.length cA).ownBlock = some g → w4.heap.size ≤ g from hNA)
              clear hA hBA hNA
              refine hK1 _ _ (fun _ => HKP.out _ B2.out) ?_
              try simp only [Act.put, List.setIfInBounds_toArray, List.set_cons_zero, List.set_cons_succ]
              refine wpAnyT_one (i := 4) (o := ({ dst := some 81, op := Go.Op.call { callee := Go.Callee.builtin Go.Builtin.append, args := #[Go.Operand.const (Go.Value.slice none 0 0), Go.Operand.tmp 80], argTypes := #[31, 31] }, type := 31, pos := "law.go:177", after := #[{ on := 3, ground := Go.Ground.data }, { on := 1, ground := Go.Ground.chain }], guard := none } : Oper)) (by kernel_rfl) rfl (fun K2 hK2 => ?_)
              refine step_copy_texts (by rfl) _ _ (by rfl) (by rfl) ta tc x.l (by rfl) (HTX.out.below B2.out) HTC.out (by omega) ?_
              intro vb wB hB hBB hNB
              obtain ⟨qB, cB, rfl⟩ := slice_len hB
              have B3 := Lib.hid (B2.out.trans (hBB.mono B2.out.size))
              have HB := Lib.hid (RowOk.of_row hB); have HAB := Lib.hid (row_below HA.out hBB)
              clear hB hBB hNB
              refine hK2 _ _ (fun _ => HKP.out _ B3.out) ?_
              try simp only [Act.put, List.setIfInBounds_toArray, List.set_cons_zero, List.set_cons_succ]
              refine wpAnyT_one (i := 5) (o := ({ dst := some 82, op := Go.Op.buildSlice 43 1 #[(0, Go.Operand.tmp 81)], type := 43, pos := "law.go:177", after := #[{ on := 4, ground := Go.Ground.data }], guard := none } : Oper)) (by kernel_rfl) rfl (fun K3 hK3 => ?_)
              go_simp
              refine hK3 _ _ (fun _ => HKP.out _ (B3.out.alloc B3.out.size _)) ?_
              try simp only [Act.put, List.setIfInBounds_toArray, List.set_cons_zero, List.set_cons_succ]
              refine wpAnyT_one (i := 6) (o := ({ dst := some 83, op := Go.Op.call { callee := Go.Callee.builtin Go.Builtin.append, args := #[Go.Operand.tmp 78, Go.Operand.tmp 82], argTypes := #[43, 43] }, type := 43, pos := "law.go:177", after := #[{ on := 1, ground := Go.Ground.data }, { on := 5, ground := Go.Ground.data }, { on := 4, ground := Go.Ground.chain }], guard := none } : Oper)) (by kernel_rfl) rfl (fun K4 hK4 => ?_)
              refine step_append_lies _ (by rfl) _ _ _ (by rfl) 0 31 i0 _ 1 24 Try.underlying43 hi0 hz0 hz1 hz2 (by rfl) (by omega) (.slice qA L.groups.length cA) L.groups.length cs (by rfl) (HAB.out.alloc _) ⟨wB.heap.size, 0, none⟩ 1 1 [.slice qB x.l.length cB] (by rfl) (by rfl) (World.news_of_block (cs := #[.slice qB x.l.length cB]) (t := 31) (fr := (0, 0)) (heap_alloc_new wB _)) (fun u hu => by rw [List.mem_singleton] at hu; subst hu; exact HB.out.one) (by omega) (by unfold maxLen; omega) (by omega) (Nat.zero_le _) _ (by rfl) ?_
              intro gg cap2 wC hC hgC hatC hltC
              have B4 := Lib.hid ((B3.out.alloc B3.out.size (.cells #[.slice qB x.l.length cB] 31)).grown hgC (Nat.le_trans B3.out.size (by rw [World.size_alloc]; omega)) HNA.out)
              have HGC := Lib.hid (GroupsAt.pushed (L := L.groups) rfl HAB.out HB.out HC2.out HC3.out (fun i h h' => (HC4.out i h h').upd (Upd.of_below (F := fun _ => False) B3.out) (fun _ _ f => f)) ((Below.refl wB.heap.size wB).alloc (Nat.le_refl _) _) hgC hC)
              have HNC := Lib.hid (show ∀ g, (Value.slice (some ⟨gg, 0, none⟩) (L.groups.length + 1) cap2).ownBlock = some g → w4.heap.size ≤ g from fun g hg => by
                have e : gg = g := by have e' : some gg = some g := hg; exact Option.some.inj e'
                subst e
                rcases hatC with h | h
                · exact HNA.out _ h
                · rw [h]; exact Nat.le_trans B3.out.size (by rw [World.size_alloc]; omega))
              clear hC hgC hatC hltC
              refine hK4 _ _ (fun _ => HKP.out _ B4.out) ?_
              try simp only [Act.put, List.setIfInBounds_toArray, List.set_cons_zero, List.set_cons_succ]
              refine wpAnyT_one (i := 7) (o := ({ dst := some 9, op := Go.Op.assign (Go.Operand.tmp 83), type := 43, pos := "law.go:177", after := #[{ on := 6, ground := Go.Ground.data }, { on := 6, ground := Go.Ground.chain }, { on := 0, ground := Go.Ground.phase }, { on := 1, ground := Go.Ground.phase }, { on := 2, ground := Go.Ground.phase }, { on := 3, ground := Go.Ground.phase }, { on := 4, ground := Go.Ground.phase }, { on := 5, ground := Go.Ground.phase }, { on := 6, ground := Go.Ground.phase }], guard := none } : Oper)) (by kernel_rfl) rfl (fun K5 hK5 => ?_)
              go_simp
              refine hK5 _ _ (fun h => absurd rfl h) ?_
              try simp only [Act.put, List.setIfInBounds_toArray, List.set_cons_zero, List.set_cons_succ]
              refine wpAnyT_done (by kernel_rfl) ?_ _
              clear hK1 hK2 hK3 hK4 hK5 K1 K2 K3 K4 K5
              go_wp2_with fail
              obtain rfl := HSQ.out
              go_meet
              case rel =>
                have hn := HI.out.n
                exact ⟨x1, D5, fp5, gv5, L5, rfl, by rw [HE2.out], ⟨HLG.out.step B4.out, HS5.out, HE1.out.trans hn, HLO.out, by rw [HGR.out]; exact HGC.out, fun g hg hw => by have := HNC.out g hg; have := HLG.out.wal.lt g hw; omega, ⟨_, _, _, rfl⟩, ⟨_, rfl⟩⟩⟩
            · have hb1 : (k5 == 0) = false := by simp [hk0]
              have hb2 : (k5 != 0) = true := by simp [hk0]
              have HT := Lib.hid (HTURN.out hgr)
              clear hk0 hgr
              by_cases hf : L.fault = 0
              · have hbf : (L.fault == 0) = true := by simp [hf]
                clear hf
                by_cases h40 : k5 = 40
                · subst h40
                  go_wp2_with fail
                  have HKP := Lib.hid (fun (V : World) (hb : Below w4.heap.size w4 V) => (show (fun V : World => V.cell? ⟨sb, 2, none⟩ = some (.slice ta x.l.length tc)) V from (hb.cell (p := ⟨sb, 2, none⟩) (block_lt_of_cell s2)).trans s2))
                  have B1 := Lib.hid (show Below w4.heap.size w4 w4.drew from (Below.refl _ _).drew)
                  obtain ⟨cs, hc1, hc2, hc3, hc4⟩ := HSU.out
                  have HC1 := Lib.hid hc1; have HC2 := Lib.hid hc2; have HC3 := Lib.hid hc3; have HC4 := Lib.hid hc4
                  obtain ⟨qs, cc, rfl⟩ := slice_len hc1
                  obtain ⟨i0, hi0, hz0, hz1, hz2⟩ := info_parts rows_info
                  clear hc1 hc2 hc3 hc4 s2
                  refine wp_region_T (z := 7) (S := (fun V : World => V.cell? ⟨sb, 2, none⟩ = some (.slice ta x.l.length tc))) (by kernel_rfl) ?_
                  refine wpAnyT_take (i := 0) (oi := ({ dst := some 90, op := Go.Op.move (Go.Operand.tmp 9), type := 43, pos := "law.go:179", after := #[], guard := none } : Oper)) (v := ?_) rfl (by kernel_rfl) (by kernel_rfl) (by kernel_rfl) (by kernel_rfl) (fun _ _ _ h => h) (Or.inl ⟨by rfl, ?_⟩) (HKP.out _ B1.out) ?_
                  rotate_left
                  · intro V hV
                    try dsimp only at hV
                    go_simp
                    all_goals with_reducible rfl
                  try simp only [Act.put, List.setIfInBounds_toArray, List.set_cons_zero, List.set_cons_succ]
                  refine wpAnyT_take (i := 2) (oi := ({ dst := some 92, op := Go.Op.fieldAddr 76 (Go.Operand.tmp 14) 2, type := 0, pos := "law.go:179", after := #[], guard := none } : Oper)) (v := ?_) rfl (by kernel_rfl) (by kernel_rfl) (by kernel_rfl) (by kernel_rfl) (fun _ _ _ h => h) (Or.inl ⟨by rfl, ?_⟩) (HKP.out _ B1.out) ?_
                  rotate_left
                  · intro V hV
                    try dsimp only at hV
                    go_simp
                    all_goals with_reducible rfl
                  try simp only [Act.put, List.setIfInBounds_toArray, List.set_cons_zero, List.set_cons_succ]
                  refine wpAnyT_take (i := 3) (oi := ({ dst := some 93, op := Go.Op.load 31 (Go.Operand.tmp 92), type := 31, pos := "law.go:179", after := #[{ on := 2, ground := Go.Ground.data }], guard := none } : Oper)) (v := ?_) rfl (by kernel_rfl) (by kernel_rfl) (by kernel_rfl) (by kernel_rfl) (fun _ _ _ h => h) (Or.inl ⟨by rfl, ?_⟩) (HKP.out _ B1.out) ?_
                  rotate_left
                  · intro V hV
                    try dsimp only at hV
                    go_simp
                    all_goals with_reducible rfl
                  try simp only [Act.put, List.setIfInBounds_toArray, List.set_cons_zero, List.set_cons_succ]
                  refine wpAnyT_one (i := 1) (o := ({ dst := some 91, op := Go.Op.call { callee := Go.Callee.builtin Go.Builtin.append, args := #[Go.Operand.const (Go.Value.slice none 0 0), Go.Operand.tmp 90], argTypes := #[43, 43] }, type := 43, pos := "law.go:179", after := #[{ on := 0, ground := Go.Ground.data }], guard := none } : Oper)) (by kernel_rfl) rfl (fun K1 hK1 => ?_)
                  refine step_copy_row (by rfl) _ _ 43 (by rfl) (by rfl) (.slice qs L.groups.length cc) (by rfl) 31 i0 _ 1 24 Try.underlying43 hi0 hz0 hz1 hz2 (by rfl) (by omega) L.groups.length cs HC3.out (row_below HC1.out B1.out) (by unfold maxLen; omega) (by omega) ?_
                  intro va wA hA hBA hNA
                  obtain ⟨qA, cA, rfl⟩ := slice_len hA
                  have B2 := Lib.hid (B1.out.trans (hBA.mono B1.out.size))
                  have HA := Lib.hid hA; have HNA := Lib.hid (show ∀ g, (Value.slice qA L.groups.length cA).ownBlock = some g → w4.heap.size ≤ g from hNA)
                  clear hA hBA hNA
                  refine hK1 _ _ (fun _ => HKP.out _ B2.out) ?_
                  try simp only [Act.put, List.setIfInBounds_toArray, List.set_cons_zero, List.set_cons_succ]
                  refine wpAnyT_one (i := 4) (o := ({ dst := some 94, op := Go.Op.call { callee := Go.Callee.builtin Go.Builtin.append, args := #[Go.Operand.const (Go.Value.slice none 0 0), Go.Operand.tmp 93], argTypes := #[31, 31] }, type := 31, pos := "law.go:179", after := #[{ on := 3, ground := Go.Ground.data }, { on := 1, ground := Go.Ground.chain }], guard := none } : Oper)) (by kernel_rfl) rfl (fun K2 hK2 => ?_)
                  refine step_copy_texts (by rfl) _ _ (by rfl) (by rfl) ta tc x.l (by rfl) (HTX.out.below B2.out) HTC.out (by omega) ?_
                  intro vb wB hB hBB hNB
                  obtain ⟨qB, cB, rfl⟩ := slice_len hB
                  have B3 := Lib.hid (B2.out.trans (hBB.mono B2.out.size))
                  have HB := Lib.hid (RowOk.of_row hB); have HAB := Lib.hid (row_below HA.out hBB)
                  clear hB hBB hNB
                  refine hK2 _ _ (fun _ => HKP.out _ B3.out) ?_
                  try simp only [Act.put, List.setIfInBounds_toArray, List.set_cons_zero, List.set_cons_succ]
                  refine wpAnyT_one (i := 5) (o := ({ dst := some 95, op := Go.Op.buildSlice 43 1 #[(0, Go.Operand.tmp 94)], type := 43, pos := "law.go:179", after := #[{ on := 4, ground := Go.Ground.data }], guard := none } : Oper)) (by kernel_rfl) rfl (fun K3 hK3 => ?_)
                  go_simp
                  refine hK3 _ _ (fun _ => HKP.out _ (B3.out.alloc B3.out.size _)) ?_
                  try simp only [Act.put, List.setIfInBounds_toArray, List.set_cons_zero, List.set_cons_succ]
                  refine wpAnyT_one (i := 6) (o := ({ dst := some 96, op := Go.Op.call { callee := Go.Callee.builtin Go.Builtin.append, args := #[Go.Operand.tmp 91, Go.Operand.tmp 95], argTypes := #[43, 43] }, type := 43, pos := "law.go:179", after := #[{ on := 1, ground := Go.Ground.data }, { on := 5, ground := Go.Ground.data }, { on := 4, ground := Go.Ground.chain }], guard := none } : Oper)) (by kernel_rfl) rfl (fun K4 hK4 => ?_)
                  refine step_append_lies _ (by rfl) _ _ _ (by rfl) 0 31 i0 _ 1 24 Try.underlying43 hi0 hz0 hz1 hz2 (by rfl) (by omega) (.slice qA L.groups.length cA) L.groups.length cs (by rfl) (HAB.out.alloc _) ⟨wB.heap.size, 0, none⟩ 1 1 [.slice qB x.l.length cB] (by rfl) (by rfl) (World.news_of_block (cs := #[.slice qB x.l.length cB]) (t := 31) (fr := (0, 0)) (heap_alloc_new wB _)) (fun u hu => by rw [List.mem_singleton] at hu; subst hu; exact HB.out.one) (by omega) (by unfold maxLen; omega) (by omega) (Nat.zero_le _) _ (by rfl) ?_
                  intro gg cap2 wC hC hgC hatC hltC
                  have B4 := Lib.hid ((B3.out.alloc B3.out.size (.cells #[.slice qB x.l.length cB] 31)).grown hgC (Nat.le_trans B3.out.size (by rw [World.size_alloc]; omega)) HNA.out)
                  have HGC := Lib.hid (GroupsAt.pushed (L := L.groups) rfl HAB.out HB.out HC2.out HC3.out (fun i h h' => (HC4.out i h h').upd (Upd.of_below (F := fun _ => False) B3.out) (fun _ _ f => f)) ((Below.refl wB.heap.size wB).alloc (Nat.le_refl _) _) hgC hC)
                  have HNC := Lib.hid (show ∀ g, (Value.slice (some ⟨gg, 0, none⟩) (L.groups.length + 1) cap2).ownBlock = some g → w4.heap.size ≤ g from fun g hg => by
                    have e : gg = g := by have e' : some gg = some g := hg; exact Option.some.inj e'
                    subst e
                    rcases hatC with h | h
                    · exact HNA.out _ h
                    · rw [h]; exact Nat.le_trans B3.out.size (by rw [World.size_alloc]; omega))
                  clear hC hgC hatC hltC
                  refine hK4 _ _ (fun _ => HKP.out _ B4.out) ?_
                  try simp only [Act.put, List.setIfInBounds_toArray, List.set_cons_zero, List.set_cons_succ]
                  refine wpAnyT_one (i := 7) (o := ({ dst := some 10, op := Go.Op.assign (Go.Operand.tmp 96), type := 43, pos := "law.go:179", after := #[{ on := 6, ground := Go.Ground.data }, { on := 6, ground := Go.Ground.chain }, { on := 0, ground := Go.Ground.phase }, { on := 1, ground := Go.Ground.phase }, { on := 2, ground := Go.Ground.phase }, { on := 3, ground := Go.Ground.phase }, { on := 4, ground := Go.Ground.phase }, { on := 5, ground := Go.Ground.phase }, { on := 6, ground := Go.Ground.phase }], guard := none } : Oper)) (by kernel_rfl) rfl (fun K5 hK5 => ?_)
                  go_simp
                  refine hK5 _ _ (fun h => absurd rfl h) ?_
                  try simp only [Act.put, List.setIfInBounds_toArray, List.set_cons_zero, List.set_cons_succ]
                  refine wpAnyT_done (by kernel_rfl) ?_ _
                  clear hK1 hK2 hK3 hK4 hK5 K1 K2 K3 K4 K5
                  go_wp2_with fail
                  obtain rfl := HSQ.out
                  go_meet
                  case rel => exact ⟨x1, D5, fp5, gv5, L5, rfl, by rw [HE2.out], (HT.out.step B4.out).doubt ⟨_, _, _, rfl⟩ ⟨_, rfl⟩⟩
                · have hb40 : (k5 == 40) = false := by simp [h40]
                  clear h40
                  go_wp2_with fail
                  obtain rfl := HSQ.out
                  go_meet
                  case rel => exact ⟨x1, D5, fp5, gv5, L5, rfl, by rw [HE2.out], HT.out⟩
              · have hbf : (L.fault == 0) = false := by simp [hf]
                clear hf
                go_wp2_with fail
                obtain rfl := HSQ.out
                go_meet
                case rel => exact ⟨x1, D5, fp5, gv5, L5, rfl, by rw [HE2.out], HT.out⟩
          have hb0 : (x.what == 0) = false := by simp [h0]
          clear h0
          by_cases h1 : x.what = 1
          · have hb1 : (x.what == 1) = true := by simp [h1]
            clear h1 s0 s1 s2 s3
            have hap := reset_any HI.out.log.my.disk HI.out.log.wal (by omega)
            have hS := HI.out.sound.reset
            obtain ⟨e1, e3⟩ := wreset_cases D L
            have elo := wreset_loose D L
            obtain ⟨D5, L5, k5, hr⟩ : ∃ D5 L5 k5, wreset D L = (D5, L5, k5) := ⟨_, _, _, rfl⟩
            rw [hr] at hap hS e1 e3 elo
            have HAP := Lib.hid hap
            have HS5 := Lib.hid (show Sound D5 L5 from hS)
            have HE1 := Lib.hid (show L5.n = L.n from e1)
            have elo2 : D5.loose.length ≤ 1000 * (k + 1) := by have : D5.loose.length ≤ D.loose.length + 1000 := elo; omega
            have HLO := Lib.hid elo2
            have hwr := u64_wrap_succ L.gen
            clear hap hS hr e1 elo elo2
            go_wp2_with fail
            refine (walFault_any HI.out.log.wal).mono ?_
            rintro e wf ⟨rfl, rfl⟩
            go_wp2_with fail
            refine HAP.out.mono ?_
            rintro e w4 ⟨rfl, fp5, gv5, g1, g2, g3, g4, g5⟩
            have g1 : DiskAt w4 b D5 fp5 := g1
            have g2 : WalIn w4 x1 b gv5 L5 := g2
            have HLG := Lib.hid (HI.out.log.turn g1 g2 g3 g4 g5)
            have HTURN := Lib.hid (show L5.groups = L.groups → CrashSt W.heap.size W w4 b n (k + 1) x1 D5 fp5 gv5 L5 u9 (.slice q1 q2 q3) (.bool u) from fun h => HI.out.turn g1 g2 g3 g4 g5 HS5.out HE1.out HLO.out h)
            have e3' : (k5 = 0 ∧ L5.groups = [] ∧ L5.gen = (L.gen + 1) % 18446744073709551616) ∨ (k5 ≠ 0 ∧ L5.groups = L.groups ∧ L5.gen = L.gen) := e3
            clear g1 g2 g3 g4 g5 e3
            rcases e3' with ⟨hk0, hgr, hge⟩ | ⟨hk0, hgr, hge⟩
            · have HGR := Lib.hid hgr
              rw [← hge] at hwr
              clear hgr hge
              subst hk0
              go_wp2_with fail
              obtain rfl := HSQ.out
              go_meet
              case rel =>
                have hn := HI.out.n
                exact ⟨x1, D5, fp5, gv5, L5, rfl, rfl, ⟨HLG.out, HS5.out, HE1.out.trans hn, HLO.out, by rw [HGR.out]; exact GroupsAt.none _, fun g hg => by simp [Value.ownBlock] at hg, ⟨_, _, _, rfl⟩, ⟨_, rfl⟩⟩⟩
            · have hb3 : (k5 == 0) = false := by simp [hk0]
              have HT := Lib.hid (HTURN.out hgr)
              have HGE := Lib.hid hge
              clear hk0 hgr hge hwr
              by_cases hf : L.fault = 0
              · have hbf : (L.fault == 0) = true := by simp [hf]
                clear hf
                by_cases h40 : k5 = 40
                · subst h40
                  go_wp2_with fail
                  obtain rfl := HSQ.out
                  go_meet
                  case rel => exact ⟨x1, D5, fp5, gv5, L5, rfl, by rw [HGE.out], HT.out.doubt ⟨_, _, _, rfl⟩ ⟨_, rfl⟩⟩
                · have hb40 : (k5 == 40) = false := by simp [h40]
                  clear h40
                  go_wp2_with fail
                  obtain rfl := HSQ.out
                  go_meet
                  case rel => exact ⟨x1, D5, fp5, gv5, L5, rfl, by rw [HGE.out], HT.out⟩
              · have hbf : (L.fault == 0) = false := by simp [hf]
                clear hf
                go_wp2_with fail
                obtain rfl := HSQ.out
                go_meet
                case rel => exact ⟨x1, D5, fp5, gv5, L5, rfl, by rw [HGE.out], HT.out⟩
          have hb1 : (x.what == 1) = false := by simp [h1]
          clear h1
          by_cases h2 : x.what = 2
          · have hb2 : (x.what == 2) = true := by simp [h2]
            clear h2 s0 s2 s3
            go_wp2_with fail
            refine (fuse_any HI.out.log.my.disk x.n HO2.out.2).mono ?_
            rintro e w4 ⟨rfl, g1, g3⟩
            have HT := Lib.hid (HI.out.turn g1 (HI.out.log.wal.disk HI.out.log.my.disk g3) (g3.mono (fun _ => .inl)) (fun _ h => .inl h) (fun _ h => .inl h) (HI.out.sound.fuse HO2.out.2) rfl (by show D.loose.length ≤ _; omega) rfl)
            clear g1 g3
            go_wp2_with fail
            obtain rfl := HSQ.out
            go_meet
            case rel => exact ⟨x1, D.fuse x.n, fp, gv, L, rfl, rfl, HT.out⟩
          have hb2 : (x.what == 2) = false := by simp [h2]
          clear h2
          by_cases h3 : x.what = 3
          · have hb3 : (x.what == 3) = true := by simp [h3]
            clear h3 s0 s1 s2
            have HSC := Lib.hid (HI.out.sound.crash x.keep)
            have HNO := Lib.hid (show (D.crash x.keep).openW 0 (n : Int) = (some { L with fault := 0 }, 0) from by
              have h := HSC.out.openW rfl
              have e : ({ L with fault := 0 } : WLog).n = n := HI.out.n
              rw [e] at h
              rw [h, show ({ from_ := L.from_, n := n, gen := L.gen, used := L.used, groups := L.groups, fault := 0 } : WLog) = { L with fault := 0 } from by rw [← HI.out.n]])
            go_wp2_with fail
            refine (crash_any HI.out.log.my.disk x.keep (by omega) (by omega)).mono ?_
            rintro e w4 ⟨rfl, fp5, g1, g3, g4⟩
            have HT := Lib.hid (HI.out.turn (L' := L) g1 (HI.out.log.wal.disk HI.out.log.my.disk g3) (g3.mono (fun _ => .inl)) g4 (fun _ h => .inl h))
            have HM4 := Lib.hid (HI.out.log.my.turn g1 g3 g4)
            have HPA := Lib.hid (HI.out.past (g3.mono (fun _ => .inl)) (fun _ h => .inl h))
            clear g1 g3 g4 HT
            go_wp2_with fail
            refine (open_log HM4.out 0 n (by omega) (by omega) HNO.out).mono ?_
            rintro e w5 ⟨y, gy, rfl, hly, hb5, hn5⟩
            have HLY := Lib.hid hly
            have HS5 := Lib.hid (HPA.out.1.below hb5)
            clear hly hb5 hn5
            go_wp2_with fail
            refine (walGroups_any HLY.out.wal HMD.out.groups HMD.out.rows).mono ?_
            rintro e w6 ⟨v6, rfl, hg6, hb6, hn6⟩
            have HL6 := Lib.hid (HLY.out.step hb6)
            have HG6 := Lib.hid (show GroupsAt w6 v6 L.groups from hg6)
            have HS6 := Lib.hid (HS5.out.below hb6)
            have HN6 := Lib.hid (show ∀ g, v6.ownBlock = some g → ¬ walBlocks y gy g from fun g hg hw => by have := hn6 g hg; have := HLY.out.wal.lt g hw; omega)
            clear hg6 hb6 hn6
            go_wp2_with fail
            refine (rsame5_same L.groups v6 u9 _ HG6.out HS6.out (by have := HMD.out.groups; omega) (fun l hl => by have := HMD.out.rows l hl; unfold maxLen; omega)).mono ?_
            rintro e w7 ⟨rfl, hb7⟩
            have HL7 := Lib.hid (HL6.out.step hb7)
            have HG7 := Lib.hid (HG6.out.below hb7)
            obtain ⟨qv, cv, rfl⟩ := HG6.out.slice
            clear hb7
            have HREL := Lib.hid (fun (w8 : World) (hb : Below w7.heap.size w7 w8) (uv : Value) (hu : ∃ u, uv = .bool u) => (⟨HL7.out.step hb, HSC.out, HI.out.n, by show (0 : Nat) ≤ _; omega, HG7.out.below hb, HN6.out, ⟨_, _, _, rfl⟩, hu⟩ : CrashSt W.heap.size W w8 b n (k + 1) y (D.crash x.keep) fp5 gy { L with fault := 0 } (.slice qv L.groups.length cv) (.slice q1 q2 q3) uv))
            have hgg : ((L.gen : Int) != (L.gen : Int)) = false := by simp
            cases u with
            | false =>
              go_wp2_with fail
              obtain rfl := HSQ.out
              go_meet
              case rel => exact ⟨y, D.crash x.keep, fp5, gy, { L with fault := 0 }, rfl, rfl, HREL.out _ (Below.refl _ _) _ ⟨_, rfl⟩⟩
            | true =>
              by_cases hq2 : q2 = 0
              · have hbq : ((q2 : Int) == 0) = true := by simp [hq2]
                clear hq2
                go_wp2_with fail
                refine (walGen_any HL7.out.wal).mono ?_
                rintro e w8 ⟨rfl, rfl⟩
                go_wp2_with fail
                obtain rfl := HSQ.out
                go_meet
                case rel => exact ⟨y, D.crash x.keep, fp5, gy, { L with fault := 0 }, rfl, rfl, HREL.out _ (Below.refl _ _) _ ⟨_, rfl⟩⟩
              · have hbq : ((q2 : Int) == 0) = false := by simp [hq2]
                clear hq2
                go_wp2_with fail
                obtain rfl := HSQ.out
                go_meet
                case rel => exact ⟨y, D.crash x.keep, fp5, gy, { L with fault := 0 }, rfl, rfl, HREL.out _ (Below.refl _ _) _ ⟨_, rfl⟩⟩
          have hb3 : (x.what == 3) = false := by simp [h3]
          clear h3
          go_wp2_with fail
          obtain rfl := HSQ.out
          go_meet
          case rel => exact ⟨x1, D, fp, gv, L, rfl, rfl, HI.out.more⟩
        case rest =>
          obtain ⟨w8, rfl⟩ : ∃ w8 : World, w8 = wc := ⟨_, rfl⟩
          obtain ⟨y, D', fp', gv', L', rfl, rfl, hcs⟩ := hcut
          have HC := Lib.hid hcs
          have HMC := Lib.hid hcs.sound.modest
          clear hcs
          have hgg : ((L'.gen : Int) != (L'.gen : Int)) = false := by simp
          by_cases hf : L'.fault = 0
          · have hbf : (L'.fault == 0) = true := by simp [hf]
            clear hf
            go_wp2_with fail
            refine (walFault_any HC.out.log.wal).mono ?_
            rintro e w9 ⟨rfl, rfl⟩
            go_wp2_with fail
            refine (walGroups_any HC.out.log.wal HMC.out.groups HMC.out.rows).mono ?_
            rintro e w9 ⟨v9, rfl, hg9, hb9, _⟩
            have HC9 := Lib.hid (HC.out.step hb9)
            have HG9 := Lib.hid hg9
            clear hg9 hb9
            go_wp2_with fail
            refine (rsame5_same L'.groups v9 _ _ HG9.out HC9.out.sure (by have := HMC.out.groups; omega) (fun l hl => by have := HMC.out.rows l hl; unfold maxLen; omega)).mono ?_
            rintro e w10 ⟨rfl, hb10⟩
            have HC10 := Lib.hid (HC9.out.step hb10)
            clear hb10
            go_wp2_with fail
            refine (walGen_any HC10.out.log.wal).mono ?_
            rintro e w11 ⟨rfl, rfl⟩
            go_wp2_with fail
            go_roundw
            case rel => exact ⟨k + 1, y, D', fp', gv', L', by omega, by go_num, rfl, rfl, HC10.out⟩
            case measure => simp [intOf]; omega
          · have hbf : (L'.fault == 0) = false := by simp [hf]
            clear hf
            go_wp2_with fail
            refine (walFault_any HC.out.log.wal).mono ?_
            rintro e w9 ⟨rfl, rfl⟩
            go_wp2_with fail
            go_roundw
            case rel => exact ⟨k + 1, y, D', fp', gv', L', by omega, by go_num, rfl, rfl, HC.out⟩
            case measure => simp [intOf]; omega
      · obtain rfl : k = l.length := by omega
        clear hst
        go_wp2_with fail
        refine (alive5_any _).mono ?_
        rintro e w9 ⟨rfl, hb9⟩
        have HB9 := Lib.hid (HST.out.step hb9).log.my.below
        clear hb9
        go_wp2_with fail
        go_ret
        exact ⟨rfl, HB9.out⟩
set_option maxRecDepth 100000 in
theorem walCrash_any {H : Type} {enc : TypeId × Value → H} {base : Nat} (W : World) (N : Int) (hN : (Lit.int .i64 N).wf = true) (v : Value) (d : DataW H) (p : List MemPlace)
    (ho : Value.okWide Try.prog W .any base 72 v) (h : DataW.Trod enc Try.prog W 0 (fun _ => true) true 72 v d p) (hz : ∀ n ∈ DataW.weights Try.prog 72 d, (decide (n ≤ reachBytes)) = true) :
    Calls Try.prog 11 #[.int .i64 N, v] W fun e w' => e = .returned (.bool true) ∧ Below W.heap.size W w' := by
  obtain ⟨a, cap, l, rfl, h1, h2, h3⟩ := wsteps_of_trod ho h hz
  exact walCrash_walk W N hN a cap l h1 h2 h3
end Go.Proofs.Ythbdflmckfgleaa
