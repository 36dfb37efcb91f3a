/- FilCommit -/
import Derived.Test.YtoaihngckcbhiaaGreatDoorPkFilMade2
import Derived.Laws.Externs
import Derived.MapKept
import Derived.Test.YtoaihngckcbhiaaGreatDoorPkFilRead2
import Derived.Test.YtoaihngckcbhiaaGreatDoorPkWalOps2
import Derived.Deep.RegionHeld3
import Derived.Test.YtoaihngckcbhiaaGreatDoorPkFilNames2
namespace Go.Proofs.YtoaihngckcbhiaaGreatDoor
open Go.RowKit Go.Maps
open Fil
theorem FilMap.cloned {w : World} {m : Nat} {F : M} (h : FilMap w m F) : ∃ es clock, w.heap[m]? = some (.map es clock) ∧ FilMap (w.alloc (.map es clock)) w.heap.size F := by
  obtain ⟨hu, kv, hp, ⟨hn, D, ⟨es, clock, hb, G, hs, hD⟩, rest⟩⟩ := h
  exact ⟨es, clock, hb, hu, kv, hp, ⟨hn, D, ⟨es, clock, (MapKept.heap_alloc w _).1, G, hs, hD⟩, rest⟩⟩
theorem eql_fmap (w : World) (p : Option Nat) : (binOp .eql 65 (.map p) (.map none)).run Tryz.prog w = .ok (.bool p.isNone) w := by
  have h : ∀ d, (Op.equalIn (d + 1) 65 (.map p) (.map none)).run Tryz.prog w = .ok p.isNone w := fun d => by
    cases p <;> simp [Op.equalIn, run_underlying Tryz.underlying65]
  simp only [binOp]
  simp [show Op.equal 65 (.map p) (.map none) = Op.equalIn (9999 + 1) 65 (.map p) (.map none) from rfl, h 9999]
set_option maxRecDepth 100000 in
set_option maxHeartbeats 2000000 in
theorem fclone_any (w : World) (m : Nat) (es : Array MapEntry) (clock : Nat) (hb : w.heap[m]? = some (.map es clock)) :
    Calls Tryz.prog 89 #[.map (some m)] w fun e w' => e = .returned (.map (some w.heap.size)) ∧ w' = w.alloc (.map es clock) := by
  have hq := fun w => eql_fmap w (some m)
  have hext : (Extern.MapsClone.clone #[.iface 65 (.map (some m))]).run Tryz.prog w = .ok (.iface 65 (.map (some w.heap.size))) (w.alloc (.map es clock)) := by
    have e : Extern.MapsClone.clone #[.iface 65 (.map (some m))] = (getObj m >>= fun o => match o with
        | .map entries clock => (newObj (.map entries clock) >>= fun n => pure (.iface 65 (.map (some n))))
        | _ => stuck "maps.clone: a map expected") := rfl
    rw [e]
    simp [MapKept.run_getObj_map hb, Result.andThen, go_sem]
  have hta : ∀ W, (Instr.typeAssert (.iface 65 (.map (some w.heap.size))) 20 65 false).run Tryz.prog W = .ok (.map (some w.heap.size)) W := fun W => by
    simp [Instr.typeAssert, run_underlying Tryz.underlying65, go_sem, Result.andThen]
  go_enter Tryz.func89, Tryz.ntmps89
  have hcall := run_callFunc_extern (P := Tryz.prog) Tryz.func134 (by kernel_rfl) (by kernel_rfl) (by kernel_rfl) (e := Extern.MapsClone.clone) (by kernel_rfl) #[.iface 65 (.map (some m))] w
  rw [hext] at hcall
  simp only [Result.andThen] at hcall
  go_wp2_with fail
  go_ret
  exact ⟨rfl, rfl⟩
set_option maxRecDepth 100000 in
theorem fbad_any (name data : T) (gone : Bool) (w : World) (hn : name.length ≤ maxLen) (hd : data.length ≤ maxLen) :
    Calls Tryz.prog 88 #[.agg #[.string (bs name), .string (bs data), .bool gone]] w fun e w' => e = .returned (.bool (!Chg.may ⟨name, data, gone⟩)) ∧ Below w.heap.size w w' := by
  have HM := Lib.hid (fun (V : World) => fmay_any name data gone V hn hd)
  generalize Chg.may ⟨name, data, gone⟩ = s at *
  go_enter Tryz.func88, Tryz.ntmps88
  go_wp2_with fail
  refine (HM.out _).mono ?_
  rintro e w1 ⟨rfl, hb⟩
  have HB := Lib.hid hb
  clear hb
  go_wp2_with fail
  go_ret
  exact ⟨rfl, ((Below.refl w.heap.size w).alloc (Nat.le_refl _) _).trans (HB.out.mono (by simp))⟩
def idxC (l : List Chg) : Int := match l.findIdx? (fun c => !Chg.may c) with
  | some i => (i : Int)
  | none => -1
theorem idxC_some {l : List Chg} {k : Nat} (hk : k < l.length) (h : Chg.may l[k] = false) (hn : ∀ j (hj : j < k), Chg.may (l[j]'(by omega)) = true) : idxC l = (k : Int) := by
  have : l.findIdx? (fun c => !Chg.may c) = some k := List.findIdx?_eq_some_iff_getElem.2 ⟨hk, by simp [h], fun j hj => by simp [hn j hj]⟩
  unfold idxC; rw [this]
theorem idxC_none {l : List Chg} (hn : ∀ j (hj : j < l.length), Chg.may l[j] = true) : idxC l = -1 := by
  have : l.findIdx? (fun c => !Chg.may c) = none := List.findIdx?_eq_none_iff.2 fun x hx => by
    obtain ⟨i, hi, rfl⟩ := List.getElem_of_mem hx
    simp [hn i hi]
  unfold idxC; rw [this]
theorem idxC_neg (l : List Chg) : decide (0 ≤ idxC l) = !(l.all Chg.may) := by
  unfold idxC
  cases h : l.findIdx? (fun c => !Chg.may c) with
  | none =>
    have := List.findIdx?_eq_none_iff.1 h
    have e : l.all Chg.may = true := List.all_eq_true.2 fun x hx => by simpa using this x hx
    rw [e]; rfl
  | some i =>
    obtain ⟨hi, h1, _⟩ := List.findIdx?_eq_some_iff_getElem.1 h
    have e : l.all Chg.may = false := List.all_eq_false.2 ⟨_, List.getElem_mem hi, by simpa using h1⟩
    rw [e]; simp
set_option maxRecDepth 100000 in
set_option maxHeartbeats 1000000 in
theorem findexf_any {w : World} {a : Option Addr} {cap : Nat} {l : List Chg} (hL : ChgsAt w a l) (hlen : l.length ≤ 1000000) (hok : ∀ c ∈ l, c.name.length ≤ maxLen ∧ c.data.length ≤ maxLen) :
    Calls Tryz.prog 133 #[.slice a l.length cap, .func (.func 88) #[] #[]] w fun e w' => e = .returned (.int .i64 (idxC l)) ∧ Below w.heap.size w w' := by
  have HL := Lib.hid hL; have HOK := Lib.hid hok
  clear hL hok
  go_enter Tryz.func133, Tryz.ntmps133
  go_wp2_with fail
  go_loopw [5, 8] (fun _ i wr => ∃ k : Nat, k ≤ l.length ∧ i = .int .i64 k ∧ Below w.heap.size w wr ∧ ∀ j (hj : j < k), (h : j < l.length) → Chg.may l[j] = true) (fun _ i _ => l.length - (intOf i).toNat)
  case atStart => exact ⟨0, Nat.zero_le _, rfl, Below.refl _ _, fun j hj => by omega⟩
  case round =>
    obtain ⟨k, hk, rfl, hb, hno⟩ := hrel
    have HNO := Lib.hid hno
    clear hno
    by_cases hlt : k < l.length
    · obtain ⟨q, hix, hq, -⟩ := HL.out.index cap k hlt
      have hq2 := hq.below hb
      obtain ⟨c0, c1, c2⟩ := hq2.cells
      have hin := HOK.out _ (List.getElem_mem hlt)
      have HCL := Lib.hid (fun (V : World) => fbad_any l[k].name l[k].data l[k].gone V hin.1 hin.2)
      have HID := Lib.hid (show Chg.may l[k] = false → idxC l = (k : Int) from fun h => idxC_some hlt h (fun j hj => HNO.out j hj (by omega)))
      have HNX := Lib.hid (show Chg.may l[k] = true → ∀ j (hj : j < k + 1), (h : j < l.length) → Chg.may l[j] = true from fun h j hj h' => by
        by_cases e : j = k
        · subst e; exact h
        · exact HNO.out j (by omega) h')
      generalize l[k] = x at *
      obtain ⟨cn, cd, cg⟩ := x
      simp only at c0 c1 c2 hin HCL
      have HB := Lib.hid hb
      clear hq hq2 hb
      go_wp2_with fail
      refine (HCL.out _).mono ?_
      rintro e w1 ⟨rfl, hb1⟩
      have HB1 := Lib.hid (HB.out.trans (hb1.mono HB.out.size))
      clear hb1
      generalize Chg.may ⟨cn, cd, cg⟩ = s at *
      cases s with
      | false =>
        have HI2 := Lib.hid (HID.out rfl)
        clear HID HNX
        go_wp2_with fail
        go_ret
        exact ⟨by rw [HI2.out]; rfl, HB1.out⟩
      | true =>
        have HN := Lib.hid (HNX.out rfl)
        clear HID HNX
        go_wp2_with fail
        go_roundw
        case rel => exact ⟨k + 1, by omega, by go_num, HB1.out, HN.out⟩
        case measure => simp [intOf]; omega
    · obtain rfl : k = l.length := by omega
      have HN := Lib.hid (show idxC l = -1 from idxC_none (fun j hj => HNO.out j hj hj))
      have HB := Lib.hid hb
      clear hb
      go_wp2_with fail
      go_ret
      exact ⟨by rw [HN.out]; rfl, HB.out⟩
set_option maxRecDepth 100000 in
theorem fcontains_any {w : World} {a : Option Addr} {cap : Nat} {l : List Chg} (hL : ChgsAt w a l) (hlen : l.length ≤ 1000000) (hok : ∀ c ∈ l, c.name.length ≤ maxLen ∧ c.data.length ≤ maxLen) :
    Calls Tryz.prog 87 #[.slice a l.length cap, .func (.func 88) #[] #[]] w fun e w' => e = .returned (.bool (!(l.all Chg.may))) ∧ Below w.heap.size w w' := by
  have HI := Lib.hid (findexf_any (cap := cap) hL hlen hok)
  have HE := Lib.hid (idxC_neg l)
  clear hL hok
  generalize idxC l = i at *
  go_enter Tryz.func87, Tryz.ntmps87
  go_wp2_with fail
  refine HI.out.mono ?_
  rintro e w1 ⟨rfl, hb⟩
  have HB := Lib.hid hb
  clear hb
  go_wp2_with fail
  go_ret
  exact ⟨by rw [← HE.out]; rfl, HB.out⟩
end Go.Proofs.YtoaihngckcbhiaaGreatDoor
namespace Go.Proofs.YtoaihngckcbhiaaGreatDoor
open Go.RowKit Go.Maps
open Fil
def doG {σ : Type} : List (σ → σ × Int) → σ → σ × Int
  | [], s => (s, 0)
  | f :: l, s => if (f s).2 = 0 then doG l (f s).1 else f s
theorem doG_end {σ : Type} {fs : List (σ → σ × Int)} (h : fs = []) (s : σ) : doG fs s = (s, 0) := by subst h; rfl
structure FnsGo {σ : Type} (I : Nat → σ → World → Prop) (J : σ → World → Prop) (vs : List Value) (fs : List (σ → σ × Int)) : Prop where
  len : vs.length = fs.length
  each : ∀ i (h : i < vs.length) (h' : i < fs.length), ∃ F recv caps, vs[i] = .func (.func F) recv caps ∧ (∀ args w, (callFunc F args).run Tryz.prog w = .ok (.enter F args) w) ∧
    ∀ s W, I i s W → Calls Tryz.prog F (recv ++ caps) W fun e W' => e = .returned (.int .i64 (fs[i] s).2) ∧ ((fs[i] s).2 = 0 → I (i + 1) (fs[i] s).1 W') ∧ ((fs[i] s).2 ≠ 0 → J (fs[i] s).1 W')
set_option maxRecDepth 100000 in
set_option maxHeartbeats 1000000 in
theorem fdo_any {σ : Type} {w : World} {y g n cap : Nat} {I : Nat → σ → World → Prop} {J : σ → World → Prop} {vs : List Value} {fs : List (σ → σ × Int)} {s0 : σ}
    (hI : I 0 s0 w) (hf : FnsGo I J vs fs) (hv : ∀ k s W, I k s W → ∀ i u, vs[i]? = some u → W.cell? ⟨g, i, none⟩ = some u) (hn : vs.length = n) (hn5 : n ≤ 5) (hJ : ∀ s W, J s W → (∃ v, W.cell? ⟨y, 6, none⟩ = some v) ∧ W.frozen? ⟨y, 6, none⟩ = false) :
    Calls Tryz.prog 96 #[.pointer (some ⟨y, 0, none⟩), .slice (some ⟨g, 0, none⟩) n cap] w fun e w' => e = .returned (.int .i64 (doG fs s0).2) ∧ ((doG fs s0).2 = 0 → I n (doG fs s0).1 w') ∧ ((doG fs s0).2 ≠ 0 → ∃ W, J (doG fs s0).1 W ∧ w' = W.setCell ⟨y, 6, none⟩ (.int .i64 (doG fs s0).2)) := by
  have HI := Lib.hid hI; have HF := Lib.hid hf; have HV := Lib.hid hv; have HN := Lib.hid hn; have HJ := Lib.hid hJ
  clear hI hf hv hn hJ
  go_enter Tryz.func96, Tryz.ntmps96
  go_wp2_with fail
  go_loopw [10] (fun i wr => ∃ (k : Nat) (s : σ), k ≤ n ∧ i = .int .i64 k ∧ I k s wr ∧ doG fs s0 = doG (fs.drop k) s) (fun i _ => n - (intOf i).toNat)
  case atStart => exact ⟨0, s0, Nat.zero_le _, rfl, HI.out, by rw [List.drop_zero]⟩
  case round =>
    obtain ⟨k, s, hk, rfl, hIr, hdo⟩ := hrel
    have HIR := Lib.hid hIr; have HDO := Lib.hid hdo
    clear hIr hdo
    by_cases hlt : k < n
    · have hkv : k < vs.length := by rw [HN.out]; exact hlt
      have hkf : k < fs.length := by rw [← HF.out.len]; exact hkv
      obtain ⟨F, recv, caps, hv, hent, hcall⟩ := HF.out.each k hkv hkf
      have hc : wr.cell? ⟨g, k, none⟩ = some (.func (.func F) recv caps) := by
        rw [← hv]
        exact HV.out k s wr HIR.out k _ (List.getElem?_eq_getElem hkv)
      have hst : doG (fs.drop k) s = if (fs[k] s).2 = 0 then doG (fs.drop (k + 1)) (fs[k] s).1 else fs[k] s := by
        rw [List.drop_eq_getElem_cons hkf]; rfl
      have hcl := hcall s wr HIR.out
      generalize fs[k] = f at *
      generalize f s = r at *
      obtain ⟨s1, e1⟩ := r
      have HCL := Lib.hid hcl
      have HST := Lib.hid hst
      clear hv hcall hcl hst hkv hkf
      go_wp2_with fail
      refine HCL.out.mono ?_
      rintro e w1 ⟨rfl, h1, h2⟩
      have H1 := Lib.hid h1; have H2 := Lib.hid h2
      clear h1 h2 hc
      by_cases h0 : e1 = 0
      · subst h0
        have HDO1 := Lib.hid (show doG fs s0 = doG (fs.drop (k + 1)) s1 by rw [HDO.out, HST.out]; rfl)
        have HI1 := Lib.hid (H1.out rfl)
        clear H1 H2
        go_wp2_with fail
        go_roundw
        case rel => exact ⟨k + 1, s1, by omega, by go_num, HI1.out, HDO1.out⟩
        case measure => simp [intOf]; omega
      · have hb1 : (e1 != 0) = true := by simp [h0]
        have HDO1 := Lib.hid (show doG fs s0 = (s1, e1) by rw [HDO.out, HST.out, if_neg h0])
        have HJ1 := Lib.hid (H2.out h0)
        obtain ⟨⟨v6, c6⟩, cf6⟩ := HJ.out _ _ HJ1.out
        have H0 := Lib.hid h0
        clear h0 H1 H2
        go_wp2_with fail
        go_ret
        rw [HDO1.out]
        exact ⟨rfl, fun h => absurd h H0.out, fun _ => ⟨w1, HJ1.out, rfl⟩⟩
    · obtain rfl : k = n := by omega
      have hfl : fs.drop k = [] := List.drop_eq_nil_of_le (by rw [← HF.out.len, HN.out]; exact Nat.le_refl _)
      have HDO1 := Lib.hid (HDO.out.trans (doG_end hfl s))
      clear hfl
      go_wp2_with fail
      go_ret
      rw [HDO1.out]
      exact ⟨rfl, fun _ => HIR.out, fun h => absurd rfl h⟩
end Go.Proofs.YtoaihngckcbhiaaGreatDoor
namespace Go.Proofs.YtoaihngckcbhiaaGreatDoor
open Go.RowKit Go.Maps
open Fil
structure LayAt (V : World) (y b m x c2 c5 : Nat) (gv : Value) (fp : Nat → Prop) (F : St) (s : T) (D : Dsk) : Prop where
  disk : DiskAt V b D fp
  fil : FilIn V y b m x gv F
  c2 : V.heap[c2]? = some (.cells #[.pointer (some ⟨y, 0, none⟩)] 25)
  c5 : V.heap[c5]? = some (.cells #[.string (bs s)] 9)
  ap : ¬ fp m
section
variable {V W : World} {y b m x c2 c5 : Nat} {gv : Value} {fp fp' : Nat → Prop} {F : St} {s : T} {D D' : Dsk}
theorem LayAt.below (h : LayAt V y b m x c2 c5 gv fp F s D) (hb : Below V.heap.size V W) : LayAt W y b m x c2 c5 gv fp F s D :=
  ⟨h.disk.below hb, h.fil.below hb, (hb.block c2 (blk_lt h.c2)).trans h.c2, (hb.block c5 (blk_lt h.c5)).trans h.c5, h.ap⟩
theorem files_apart {V : World} {y b m x b' : Nat} {gv : Value} {fp : Nat → Prop} {F : St} {D : Dsk} (hd : DiskAt V b' D fp) (hf : FilIn V y b m x gv F) (ap : ¬ fp m) (k : Nat) (hk : filBlocks y m x gv k) : ¬ fp k := by
  rcases hk with rfl | rfl | hk
  · exact fun e => hd.noBlk _ e (by decide) (by decide) hf.blk
  · exact ap
  · intro e
    rcases hf.wal.kind hk with h | h
    · exact hd.noBlk _ e (by decide) (by decide) h
    · exact hd.noBlk _ e (by decide) (by decide) h
theorem LayAt.disked (h : LayAt V y b m x c2 c5 gv fp F s D) (hd : DiskAt W b D' fp') (hu : Upd fp V W) (hs : Stays fp fp' V) : LayAt W y b m x c2 c5 gv fp' F s D' :=
  ⟨hd, h.fil.upd hu (fun k hk e => h.disk.noBlk k e (by decide) (by decide) hk) (files_apart h.disk h.fil h.ap),
    (hu.block c2 (blk_lt h.c2) (fun e => h.disk.noBlk _ e (by decide) (by decide) ⟨_, _, h.c2⟩)).trans h.c2,
    (hu.block c5 (blk_lt h.c5) (fun e => h.disk.noBlk _ e (by decide) (by decide) ⟨_, _, h.c5⟩)).trans h.c5,
    fun e => (hs m e).elim h.ap (fun e2 => by have := h.fil.map.lt; omega)⟩
theorem LayAt.reads (h : LayAt V y b m x c2 c5 gv fp F s D) : V.cell? ⟨c2, 0, none⟩ = some (.pointer (some ⟨y, 0, none⟩)) ∧ V.cell? ⟨c5, 0, none⟩ = some (.string (bs s)) ∧ V.cell? ⟨y, 0, none⟩ = some (.pointer (some ⟨b, 0, none⟩)) ∧ V.cell? ⟨y, 1, none⟩ = some (.int .i64 (F.log : Int)) ∧ V.cell? ⟨y, 2, none⟩ = some (.int .i64 (F.size : Int)) ∧ V.cell? ⟨y, 3, none⟩ = some (.int .i64 (F.area : Int)) ∧ V.cell? ⟨y, 5, none⟩ = some (.pointer (some ⟨x, 0, none⟩)) := by
  obtain ⟨c0, c1, c2', c3, c4, c5', c6, _⟩ := h.fil.cells
  exact ⟨cell_box h.c2, cell_box h.c5, c0, c1, c2', c3, c5'⟩
set_option maxRecDepth 100000 in
set_option maxHeartbeats 4000000 in
theorem laid1_any (h : LayAt V y b m x c2 c5 gv fp F s D) (hs : s.length ≤ 1000000) (hloose : D.loose.length ≤ 500000000) :
    Calls Tryz.prog 136 #[.pointer (some ⟨c2, 0, none⟩), .pointer (some ⟨c5, 0, none⟩)] V (ActPost V b D fp fun E => E.write ((begin_ F.log F.size F.area : Nat) : Int) (Wal.pad (Crc.le 4 s.length ++ s))) := by
  have HL := Lib.hid h
  obtain ⟨f1, f2, f3, f4⟩ := h.fil.fits
  have hpl : (Wal.pad (Crc.le 4 s.length ++ s)).length ≤ 1000128 := by rw [Wal.pad_length, List.length_append, Crc.le_length]; omega
  have hbl : begin_ F.log F.size F.area ≤ 40000 := by unfold begin_; have : F.area * F.size ≤ 1 * F.size := Nat.mul_le_mul_right _ f4; omega
  have HB0 := Lib.hid (Below.refl V.heap.size V)
  have HBD := Lib.hid ((Below.refl V.heap.size V).drew)
  have HLD := Lib.hid (h.below HBD.out)
  have HW := Lib.hid (fun (W : World) (h : LayAt W y b m x c2 c5 gv fp F s D) => write_any h.disk ((begin_ F.log F.size F.area : Nat) : Int) (Wal.pad (Crc.le 4 s.length ++ s)) (by omega) (by omega) (by omega))
  have HBEG := Lib.hid (fun (W : World) => fbegin_any (.pointer (some ⟨b, 0, none⟩)) F.log F.size F.area W f1 f2 f4)
  have HNUM := Lib.hid (fun (W : World) => fnum_any s.length W (by omega))
  have HWH := Lib.hid (fun (W : World) => fwhole_any (Crc.le 4 s.length ++ s) W (by rw [List.length_append, Crc.le_length]; omega))
  have hadd : ∀ W, (binOp .add 9 (.string (bs (Crc.le 4 s.length))) (.string (bs s))).run Tryz.prog W = .ok (.string (bs (Crc.le 4 s.length ++ s))) W := fun W => by
    have h4 := Crc.le_length 4 s.length
    simp [go_sem, Op.stringOp, h4]; omega
  have hadd2 : ∀ W, (Op.stringOp .add (bs (Crc.le 4 s.length)) (bs s)).run Tryz.prog W = .ok (.string (bs (Crc.le 4 s.length ++ s))) W := fun W => by
    have h4 := Crc.le_length 4 s.length
    simp [go_sem, Op.stringOp, h4]; omega
  have h4 := Crc.le_length 4 s.length
  have hsum : (4 : Int) + (s.length : Int) ≤ 9223372036854775807 := by omega
  generalize Wal.pad (Crc.le 4 s.length ++ s) = P at *
  generalize begin_ F.log F.size F.area = B at *
  obtain ⟨d0, d1, d2, d3, d4, d5, d6⟩ := h.reads
  clear h
  go_enter Tryz.func136, Tryz.ntmps136
  go_wp2_with fail
  go_region_held3 (fun W => W.cell? ⟨c2, 0, none⟩ = some (.pointer (some ⟨y, 0, none⟩)) ∧ W.cell? ⟨c5, 0, none⟩ = some (.string (bs s)) ∧ W.cell? ⟨y, 0, none⟩ = some (.pointer (some ⟨b, 0, none⟩)) ∧ W.cell? ⟨y, 1, none⟩ = some (.int .i64 (F.log : Int)) ∧ W.cell? ⟨y, 2, none⟩ = some (.int .i64 (F.size : Int)) ∧ W.cell? ⟨y, 3, none⟩ = some (.int .i64 (F.area : Int)) ∧ W.cell? ⟨y, 5, none⟩ = some (.pointer (some ⟨x, 0, none⟩)))
    (first | exact HLD.out.reads | exact HL1.out.reads | exact HL2.out.reads | exact HL3.out.reads | exact HL4.out.reads)
    (first
      | (go_at_call 63; refine (HBEG.out _).mono ?_; rintro e W1 ⟨rfl, hb1⟩; have HL1 := Lib.hid (HLD.out.below hb1); have HB1 := Lib.hid (HBD.out.trans (hb1.mono HBD.out.size)); clear hb1)
      | (go_at_call 137; refine (HNUM.out _).mono ?_; rintro e W2 ⟨rfl, hb2⟩; have HL2 := Lib.hid (HL1.out.below hb2); have HB2 := Lib.hid (HB1.out.trans (hb2.mono HB1.out.size)); clear hb2)
      | (go_at_call 60; refine (HWH.out _).mono ?_; rintro e W3 ⟨rfl, hb3⟩; have HL3 := Lib.hid (HL2.out.below hb3); have HB3 := Lib.hid (HB2.out.trans (hb3.mono HB2.out.size)); clear hb3)
      | (go_at_call 74; refine (HW.out _ HL3.out).mono ?_; rintro e W4 ⟨rfl, fp4, hd4, hu4, hs4⟩; have HL4 := Lib.hid (HL3.out.disked hd4 hu4 hs4); have HD4 := Lib.hid hd4; have HU4 := Lib.hid hu4; have HS4 := Lib.hid hs4; clear hd4 hu4 hs4))
  all_goals
    go_wp2_with fail
    go_ret
    exact ⟨rfl, fp4, HD4.out, (Upd.of_below (F := fp) HB3.out).trans HU4.out (fun i hi => .inl hi), fun i hi => (HS4.out i hi).elim .inl (fun e => .inr (Nat.le_trans HB3.out.size e))⟩
set_option maxRecDepth 100000 in
set_option maxHeartbeats 4000000 in
theorem laid2_any (h : LayAt V y b m x c2 c5 gv fp F s D) (hloose : D.loose.length ≤ 500000000) :
    Calls Tryz.prog 138 #[.pointer (some ⟨c2, 0, none⟩)] V (ActPost V b D fp fun E => E.write ((0 : Nat) : Int) (Fil.mark F.area ((F.w.gen + 1) % 18446744073709551616))) := by
  have HL := Lib.hid h
  obtain ⟨f1, f2, f3, f4⟩ := h.fil.fits
  have hgm : (F.w.gen + 1) % 18446744073709551616 < 18446744073709551616 := Nat.mod_lt _ (by decide)
  have hml := Fil.mark_length F.area ((F.w.gen + 1) % 18446744073709551616)
  have HBD := Lib.hid ((Below.refl V.heap.size V).drew)
  have HLD := Lib.hid (h.below HBD.out)
  have HW := Lib.hid (fun (W : World) (h : LayAt W y b m x c2 c5 gv fp F s D) => write_any h.disk ((0 : Nat) : Int) (Fil.mark F.area ((F.w.gen + 1) % 18446744073709551616)) (by omega) (by omega) (by omega))
  have HMK := Lib.hid (fun (W : World) => fmarked_any F.area ((F.w.gen + 1) % 18446744073709551616) W f4 hgm)
  have HGEN := Lib.hid (fun (W : World) (h : LayAt W y b m x c2 c5 gv fp F s D) => walGen_any h.fil.wal)
  have e3 := u64_wrap_succ F.w.gen
  generalize Fil.mark F.area ((F.w.gen + 1) % 18446744073709551616) = P at *
  generalize (F.w.gen + 1) % 18446744073709551616 = G at *
  obtain ⟨d0, d1, d2, d3, d4, d5, d6⟩ := h.reads
  clear h
  go_enter Tryz.func138, Tryz.ntmps138
  go_wp2_with fail
  go_region_held3 (fun W => W.cell? ⟨c2, 0, none⟩ = some (.pointer (some ⟨y, 0, none⟩)) ∧ W.cell? ⟨c5, 0, none⟩ = some (.string (bs s)) ∧ W.cell? ⟨y, 0, none⟩ = some (.pointer (some ⟨b, 0, none⟩)) ∧ W.cell? ⟨y, 1, none⟩ = some (.int .i64 (F.log : Int)) ∧ W.cell? ⟨y, 2, none⟩ = some (.int .i64 (F.size : Int)) ∧ W.cell? ⟨y, 3, none⟩ = some (.int .i64 (F.area : Int)) ∧ W.cell? ⟨y, 5, none⟩ = some (.pointer (some ⟨x, 0, none⟩)))
    (first | exact HLD.out.reads | exact HL1.out.reads | exact HL2.out.reads | exact HL4.out.reads)
    (first
      | (go_at_call 29; refine (HGEN.out _ HLD.out).mono ?_; rintro e W1 ⟨rfl, rfl⟩; have HL1 := HLD)
      | (go_at_call 62; refine (HMK.out _).mono ?_; rintro e W2 ⟨rfl, hb2⟩; have HL2 := Lib.hid (HL1.out.below hb2); have HB2 := Lib.hid (HBD.out.trans (hb2.mono HBD.out.size)); clear hb2)
      | (go_at_call 74; refine (HW.out _ HL2.out).mono ?_; rintro e W4 ⟨rfl, fp4, hd4, hu4, hs4⟩; have HL4 := Lib.hid (HL2.out.disked hd4 hu4 hs4); have HD4 := Lib.hid hd4; have HU4 := Lib.hid hu4; have HS4 := Lib.hid hs4; clear hd4 hu4 hs4))
  all_goals
    go_wp2_with fail
    go_ret
    exact ⟨rfl, fp4, HD4.out, (Upd.of_below (F := fp) HB2.out).trans HU4.out (fun i hi => .inl hi), fun i hi => (HS4.out i hi).elim .inl (fun e => .inr (Nat.le_trans HB2.out.size e))⟩
set_option maxRecDepth 100000 in
set_option maxHeartbeats 4000000 in
theorem commit2_any {c6 cap : Nat} {a : Option Addr} {l : List T} (hd : DiskAt V b D fp) (hf : FilIn V y b m x gv F) (ap : ¬ fp m) (h2 : V.heap[c2]? = some (.cells #[.pointer (some ⟨y, 0, none⟩)] 25)) (h6 : V.heap[c6]? = some (.cells #[.slice a l.length cap] 30)) (hc6 : ¬ walBlocks x gv c6)
    (hx : TextsAt V a l) (hap : ∀ p, a = some p → l ≠ [] → ¬ fp p.block ∧ ¬ walBlocks x gv p.block) (hlen : l.length ≤ 1000000) (hsum : rowLen l ≤ 1000000) (hloose : D.loose.length ≤ 400000000) (hgl : F.w.groups.length ≤ 1000000) :
    Calls Tryz.prog 97 #[.pointer (some ⟨c2, 0, none⟩), .pointer (some ⟨c6, 0, none⟩)] V fun e w' => OpPost V x b gv fp (wappend D F.w l) e w' := by
  have HBD := Lib.hid ((Below.refl V.heap.size V).drew)
  have HA := Lib.hid (append_any (cap := cap) (hd.below HBD.out) (hf.wal.below HBD.out) (hx.below HBD.out) hap hlen hsum hloose hgl)
  obtain ⟨_, _, _, _, _, d5, _⟩ := hf.cells
  have c2' := cell_box h2
  have c6' := cell_box h6
  have HK := Lib.hid (fun (W : World) (hu : Upd (fun k => fp k ∨ walBlocks x gv k) V.drew W) => (by
    refine ⟨(hu.cell (p := ⟨c2, 0, none⟩) (blk_lt h2) ?_).trans c2', (hu.cell (p := ⟨c6, 0, none⟩) (blk_lt h6) ?_).trans c6', (hu.cell (p := ⟨y, 5, none⟩) (hf.lt y (.inl rfl)) ?_).trans d5⟩
    · rintro (e | e)
      · exact hd.noBlk _ e (by decide) (by decide) ⟨_, _, h2⟩
      · rcases hf.wal.kind e with h | h
        · exact BlkOf.ne ⟨_, _, h2⟩ h (by decide) rfl
        · exact BlkOf.ne ⟨_, _, h2⟩ h (by decide) rfl
    · rintro (e | e)
      · exact hd.noBlk _ e (by decide) (by decide) ⟨_, _, h6⟩
      · exact hc6 e
    · rintro (e | e)
      · exact files_apart hd hf ap y (.inl rfl) e
      · exact hf.neY.2.1 e : W.cell? ⟨c2, 0, none⟩ = some (.pointer (some ⟨y, 0, none⟩)) ∧ W.cell? ⟨c6, 0, none⟩ = some (.slice a l.length cap) ∧ W.cell? ⟨y, 5, none⟩ = some (.pointer (some ⟨x, 0, none⟩))))
  clear hd hf hx hap h2 h6
  go_enter Tryz.func97, Tryz.ntmps97
  go_wp2_with fail
  go_region_held3 (fun W => W.cell? ⟨c2, 0, none⟩ = some (.pointer (some ⟨y, 0, none⟩)) ∧ W.cell? ⟨c6, 0, none⟩ = some (.slice a l.length cap) ∧ W.cell? ⟨y, 5, none⟩ = some (.pointer (some ⟨x, 0, none⟩)))
    (first | exact HK.out _ (Upd.refl _ _) | exact HK.out _ HU1.out)
    (first
      | (go_at_call 98; refine HA.out.mono ?_; rintro e W1 ⟨rfl, fp1, gv1, g1, g2, g3, g4, g5⟩; have HU1 := Lib.hid g3; have HG := Lib.hid (And.intro g1 (And.intro g2 (And.intro g4 g5))); clear g1 g2 g3 g4 g5))
  all_goals
    go_wp2_with fail
    go_ret
    exact ⟨rfl, fp1, gv1, HG.out.1, HG.out.2.1, (Upd.of_below (F := fun k => fp k ∨ walBlocks x gv k) HBD.out).trans HU1.out (fun i hi => .inl hi), HG.out.2.2.1, HG.out.2.2.2⟩
end
end Go.Proofs.YtoaihngckcbhiaaGreatDoor
namespace Go.Proofs.YtoaihngckcbhiaaGreatDoor
open Go.RowKit Go.Maps
open Fil
def laidFs (F : St) (s : T) : List (Dsk × WLog → (Dsk × WLog) × Int) :=
  [fun E => (((E.1.write ((begin_ F.log F.size F.area : Nat) : Int) (Wal.pad (Crc.le 4 s.length ++ s))).1, E.2), (E.1.write ((begin_ F.log F.size F.area : Nat) : Int) (Wal.pad (Crc.le 4 s.length ++ s))).2),
   fun E => ((E.1.flush.1, E.2), E.1.flush.2),
   fun E => (((E.1.write ((0 : Nat) : Int) (Fil.mark F.area ((E.2.gen + 1) % 18446744073709551616))).1, E.2), (E.1.write ((0 : Nat) : Int) (Fil.mark F.area ((E.2.gen + 1) % 18446744073709551616))).2),
   fun E => ((E.1.flush.1, E.2), E.1.flush.2),
   fun E => (((wreset E.1 E.2).1, (wreset E.1 E.2).2.1), (wreset E.1 E.2).2.2)]
def laidAfter (F : St) (r : (Dsk × WLog) × Int) : St := { F with area := 1 - F.area, w := r.1.2, fault := if r.2 = 0 then F.fault else r.2 }
theorem doG_seq (f1 f2 f4 : Dsk → Dsk × Int) (f3 : WLog → Dsk → Dsk × Int) (D : Dsk) (L : WLog) :
    doG [fun E : Dsk × WLog => (((f1 E.1).1, E.2), (f1 E.1).2), fun E => (((f2 E.1).1, E.2), (f2 E.1).2), fun E => (((f3 E.2 E.1).1, E.2), (f3 E.2 E.1).2), fun E => (((f4 E.1).1, E.2), (f4 E.1).2), fun E => (((wreset E.1 E.2).1, (wreset E.1 E.2).2.1), (wreset E.1 E.2).2.2)] (D, L) =
    if (doS [f1, f2, f3 L, f4] D).2 = 0 then (((wreset (doS [f1, f2, f3 L, f4] D).1 L).1, (wreset (doS [f1, f2, f3 L, f4] D).1 L).2.1), (wreset (doS [f1, f2, f3 L, f4] D).1 L).2.2) else (((doS [f1, f2, f3 L, f4] D).1, L), (doS [f1, f2, f3 L, f4] D).2) := by
  by_cases h1 : (f1 D).2 = 0
  · by_cases h2 : (f2 (f1 D).1).2 = 0
    · by_cases h3 : (f3 L (f2 (f1 D).1).1).2 = 0
      · by_cases h4 : (f4 (f3 L (f2 (f1 D).1).1).1).2 = 0
        · by_cases h5 : (wreset (f4 (f3 L (f2 (f1 D).1).1).1).1 L).2.2 = 0
          · simp [doS, doG, h1, h2, h3, h4, h5]
          · simp [doS, doG, h1, h2, h3, h4, h5]
        · simp [doS, doG, h1, h2, h3, h4]
      · simp [doS, doG, h1, h2, h3]
    · simp [doS, doG, h1, h2]
  · simp [doS, doG, h1]
theorem laid_doG (D : Dsk) (F : St) (m : M) : laidS D F m = ((doG (laidFs { F with area := 1 - F.area } (Fil.bytes m)) (D, F.w)).1.1,
    { laidAfter F (doG (laidFs { F with area := 1 - F.area } (Fil.bytes m)) (D, F.w)) with m := if (doG (laidFs { F with area := 1 - F.area } (Fil.bytes m)) (D, F.w)).2 = 0 then m else F.m },
    (doG (laidFs { F with area := 1 - F.area } (Fil.bytes m)) (D, F.w)).2) := by
  have e : doG (laidFs { F with area := 1 - F.area } (Fil.bytes m)) (D, F.w) = if (doS (laidActs F m) D).2 = 0 then (((wreset (doS (laidActs F m) D).1 F.w).1, (wreset (doS (laidActs F m) D).1 F.w).2.1), (wreset (doS (laidActs F m) D).1 F.w).2.2) else (((doS (laidActs F m) D).1, F.w), (doS (laidActs F m) D).2) :=
    doG_seq (fun E => E.write ((begin_ F.log F.size (1 - F.area) : Nat) : Int) (areaB m)) Dsk.flush Dsk.flush (fun L E => E.write ((0 : Nat) : Int) (Fil.mark (1 - F.area) ((L.gen + 1) % 18446744073709551616))) D F.w
  rw [e]
  unfold laidS laidAfter
  by_cases h1 : (doS (laidActs F m) D).2 = 0
  · by_cases h2 : (wreset (doS (laidActs F m) D).1 F.w).2.2 = 0
    · simp [h1, h2]
    · simp [h1, h2]
  · simp [h1]
set_option maxRecDepth 100000 in
theorem LayAt.waled {V W : World} {y b m x c2 c5 : Nat} {gv gv' : Value} {fp fp' : Nat → Prop} {F : St} {s : T} {D D' : Dsk} {L : WLog} (h : LayAt V y b m x c2 c5 gv fp F s D) (hd : DiskAt W b D' fp') (hw : WalIn W x b gv' L) (hu : Upd (fun k => fp k ∨ walBlocks x gv k) V W) (hs : Stays fp fp' V) : LayAt W y b m x c2 c5 gv' fp' { F with w := L } s D' := by
  have hk : ∀ {k t}, BlkOf V k t → t ≠ 72 → t ≠ 123 → t ≠ 135 → t ≠ 30 → ¬ (fp k ∨ walBlocks x gv k) := fun hb h1 h2 h3 h4 e => by
    rcases e with e | e
    · exact h.disk.noBlk _ e h1 h2 hb
    · rcases h.fil.wal.kind e with g | g
      · exact BlkOf.ne hb g h3 rfl
      · exact BlkOf.ne hb g h4 rfl
  exact ⟨hd, ⟨(hu.block y (blk_lt h.fil.struct) (hk h.fil.blk (by decide) (by decide) (by decide) (by decide))).trans h.fil.struct, h.fil.map.upd hu (fun e => e.elim h.ap h.fil.neY.2.2), hw, h.fil.fits⟩,
    (hu.block c2 (blk_lt h.c2) (hk ⟨_, _, h.c2⟩ (by decide) (by decide) (by decide) (by decide))).trans h.c2,
    (hu.block c5 (blk_lt h.c5) (hk ⟨_, _, h.c5⟩ (by decide) (by decide) (by decide) (by decide))).trans h.c5,
    fun e => (hs m e).elim h.ap (fun e2 => by have := h.fil.map.lt; omega)⟩
theorem more_step1 (a b c k : Nat) (h1 : a ≤ b + 100000) (h2 : b ≤ c + 100000 * k) : a ≤ c + 100000 * (k + 1) := by
  rw [Nat.mul_succ, ← Nat.add_assoc]
  generalize 100000 * k = m at *
  omega
set_option maxRecDepth 100000 in
def LaidI (w : World) (y b m x c2 c5 : Nat) (fp0 : Nat → Prop) (gv0 : Value) (F : St) (s : T) (n0 : Nat) (k : Nat) (E : Dsk × WLog) (W : World) : Prop :=
  ∃ fp gv, LayAt W y b m x c2 c5 gv fp { F with w := E.2 } s E.1 ∧ Upd (fun k => fp0 k ∨ walBlocks x gv0 k) w W ∧ Stays fp0 fp w ∧ Stays (walBlocks x gv0) (walBlocks x gv) w ∧ E.1.loose.length ≤ n0 + 100000 * k
section
variable {w V W : World} {y b m x c2 c5 : Nat} {gv0 : Value} {fp0 : Nat → Prop} {F : St} {s : T} {n0 k : Nat} {D : Dsk} {L : WLog} {e : Ending}
set_option maxRecDepth 100000 in
theorem LaidI.step {fp : Nat → Prop} {gv : Value} {f : Dsk → Dsk × Int} (h : LayAt V y b m x c2 c5 gv fp { F with w := L } s D) (hu : Upd (fun k => fp0 k ∨ walBlocks x gv0 k) w V) (h1 : Stays fp0 fp w) (h2 : Stays (walBlocks x gv0) (walBlocks x gv) w) (hl : D.loose.length ≤ n0 + 100000 * k)
    (hp : ActPost V b D fp f e W) (hm : (f D).1.loose.length ≤ D.loose.length + 100000) : e = .returned (.int .i64 (f D).2) ∧ LaidI w y b m x c2 c5 fp0 gv0 F s n0 (k + 1) ((f D).1, L) W := by
  obtain ⟨he, fp', p1, p2, p3⟩ := hp
  refine ⟨he, fp', gv, h.disked p1 p2 p3, hu.trans p2 (fun i hi => (h1 i hi).imp .inl id), fun i hi => ?_, h2, more_step1 _ _ _ _ hm hl⟩
  rcases p3 i hi with e | e
  · exact h1 i e
  · exact .inr (Nat.le_trans hu.size e)
set_option maxRecDepth 100000 in
theorem LaidI.reset (h : LaidI w y b m x c2 c5 fp0 gv0 F s n0 k (D, L) V) (hn : n0 + 100000 * k ≤ 400000000) (hm : (wreset D L).1.loose.length ≤ D.loose.length + 100000) :
    Calls Tryz.prog 33 #[.pointer (some ⟨x, 0, none⟩)] V fun e W => e = .returned (.int .i64 (wreset D L).2.2) ∧ LaidI w y b m x c2 c5 fp0 gv0 F s n0 (k + 1) ((wreset D L).1, (wreset D L).2.1) W := by
  obtain ⟨fp, gv, h, hu, h1, h2, hl⟩ := h
  have hl : D.loose.length ≤ n0 + 100000 * k := hl
  refine (reset_any h.disk h.fil.wal (by omega)).mono ?_
  rintro e W ⟨rfl, fp', gv', p1, p2, p3, p4, p5⟩
  refine ⟨rfl, fp', gv', h.waled p1 p2 p3 p4, hu.trans p3 (fun i hi => hi.elim (fun e => (h1 i e).imp .inl id) (fun e => (h2 i e).imp .inr id)), fun i hi => ?_, fun i hi => ?_, more_step1 _ _ _ _ hm hl⟩
  · rcases p4 i hi with e | e
    · exact h1 i e
    · exact .inr (Nat.le_trans hu.size e)
  · rcases p5 i hi with e | e
    · exact h2 i e
    · exact .inr (Nat.le_trans hu.size e)
theorem wreset_more (D : Dsk) (L : WLog) : (wreset D L).1.loose.length ≤ D.loose.length + 100000 := by
  have key : (doS L.racts D).1.loose.length ≤ D.loose.length + 1 := by
    unfold WLog.racts
    simp only [doS]
    have h1 := Dsk.write_loose D (L.from_ : Int) (Wal.mark ((L.gen + 1) % 18446744073709551616) 0)
    rw [Wal.mark_length] at h1
    split
    · have h2 := Dsk.flush_loose (D.write (L.from_ : Int) (Wal.mark ((L.gen + 1) % 18446744073709551616) 0)).1
      split
      · show (D.write (L.from_ : Int) (Wal.mark ((L.gen + 1) % 18446744073709551616) 0)).1.flush.1.loose.length ≤ _; omega
      · omega
    · omega
  unfold wreset
  split
  · exact Nat.le_add_right _ _
  · split
    · show (doS L.racts D).1.loose.length ≤ _; omega
    · show (doS L.racts D).1.loose.length ≤ _; omega
set_option maxRecDepth 100000 in
theorem fns_laid (hs : s.length ≤ 1000000) (hn : n0 ≤ 300000000) :
    FnsGo (LaidI w y b m x c2 c5 fp0 gv0 F s n0) (fun E W => ∃ k, LaidI w y b m x c2 c5 fp0 gv0 F s n0 k E W)
      [.func (.func 136) #[] #[.pointer (some ⟨c2, 0, none⟩), .pointer (some ⟨c5, 0, none⟩)], .func (.func 75) #[.pointer (some ⟨b, 0, none⟩)] #[], .func (.func 138) #[] #[.pointer (some ⟨c2, 0, none⟩)], .func (.func 75) #[.pointer (some ⟨b, 0, none⟩)] #[], .func (.func 33) #[.pointer (some ⟨x, 0, none⟩)] #[]] (laidFs F s) := by
  have hpl : (Wal.pad (Crc.le 4 s.length ++ s)).length ≤ 1000128 := by rw [Wal.pad_length, List.length_append, Crc.le_length]; omega
  refine ⟨rfl, fun i h h' => ?_⟩
  match i, h with
  | 0, _ =>
    refine ⟨_, _, _, rfl, enters_of Tryz.func136 (by kernel_rfl) rfl, fun E W hI => ?_⟩
    obtain ⟨fp, gv, h, hu, h1, h2, hl⟩ := hI
    refine (laid1_any h hs (by omega)).mono fun e W' hp => ?_
    have := LaidI.step h hu h1 h2 hl hp (by have := Dsk.write_loose E.1 ((begin_ F.log F.size F.area : Nat) : Int) (Wal.pad (Crc.le 4 s.length ++ s)); show (E.1.write ((begin_ F.log F.size F.area : Nat) : Int) (Wal.pad (Crc.le 4 s.length ++ s))).1.loose.length ≤ _; omega)
    exact ⟨this.1, fun _ => this.2, fun _ => ⟨_, this.2⟩⟩
  | 1, _ =>
    refine ⟨_, _, _, rfl, enters_of Tryz.func75 (by kernel_rfl) rfl, fun E W hI => ?_⟩
    obtain ⟨fp, gv, h, hu, h1, h2, hl⟩ := hI
    refine (flush_any h.disk (by omega)).mono fun e W' hp => ?_
    have := LaidI.step (f := Dsk.flush) h hu h1 h2 hl hp (by have := Dsk.flush_loose E.1; omega)
    exact ⟨this.1, fun _ => this.2, fun _ => ⟨_, this.2⟩⟩
  | 2, _ =>
    refine ⟨_, _, _, rfl, enters_of Tryz.func138 (by kernel_rfl) rfl, fun E W hI => ?_⟩
    obtain ⟨fp, gv, h, hu, h1, h2, hl⟩ := hI
    refine (laid2_any h (by omega)).mono fun e W' hp => ?_
    have := LaidI.step h hu h1 h2 hl hp (by have := Dsk.write_loose E.1 ((0 : Nat) : Int) (Fil.mark F.area ((E.2.gen + 1) % 18446744073709551616)); rw [Fil.mark_length] at this; show (E.1.write ((0 : Nat) : Int) (Fil.mark F.area ((E.2.gen + 1) % 18446744073709551616))).1.loose.length ≤ _; omega)
    exact ⟨this.1, fun _ => this.2, fun _ => ⟨_, this.2⟩⟩
  | 3, _ =>
    refine ⟨_, _, _, rfl, enters_of Tryz.func75 (by kernel_rfl) rfl, fun E W hI => ?_⟩
    obtain ⟨fp, gv, h, hu, h1, h2, hl⟩ := hI
    refine (flush_any h.disk (by omega)).mono fun e W' hp => ?_
    have := LaidI.step (f := Dsk.flush) h hu h1 h2 hl hp (by have := Dsk.flush_loose E.1; omega)
    exact ⟨this.1, fun _ => this.2, fun _ => ⟨_, this.2⟩⟩
  | 4, _ =>
    refine ⟨_, _, _, rfl, enters_of Tryz.func33 (by kernel_rfl) rfl, fun E W hI => ?_⟩
    refine (LaidI.reset hI (by omega) (wreset_more _ _)).mono fun e W' hp => ?_
    exact ⟨hp.1, fun _ => hp.2, fun _ => ⟨_, hp.2⟩⟩
end
end Go.Proofs.YtoaihngckcbhiaaGreatDoor
namespace Go.Proofs.YtoaihngckcbhiaaGreatDoor
open Go.RowKit Go.Maps
open Fil
def FPost (w : World) (y b _m x : Nat) (gv : Value) (fp : Nat → Prop) (r : Dsk × St × Int) (m' : Nat) (e : Ending) (w' : World) : Prop :=
  e = .returned (.int .i64 r.2.2) ∧ ∃ fp' gv', DiskAt w' b r.1 fp' ∧ FilIn w' y b m' x gv' r.2.1 ∧ ¬ fp' m' ∧ Upd (fun k => fp k ∨ k = y ∨ walBlocks x gv k) w w' ∧ Stays fp fp' w ∧ Stays (walBlocks x gv) (walBlocks x gv') w
theorem area_wrap {a : Nat} (h : a ≤ 1) : IntKind.i64.wrap (1 - (a : Int)) = ((1 - a : Nat) : Int) := by
  rw [IntWalk.i64_in _ (by omega)]; omega
theorem FilIn.setArea {w : World} {y b m x : Nat} {gv : Value} {F : St} (h : FilIn w y b m x gv F) (a : Nat) (ha : a ≤ 1) : FilIn (w.setCell ⟨y, 3, none⟩ (.int .i64 (a : Int))) y b m x gv { F with area := a } := by
  have hu : Upd (fun k => k = y) w (w.setCell ⟨y, 3, none⟩ (.int .i64 (a : Int))) := (Upd.refl (fun k => k = y) w).setCell (p := ⟨y, 3, none⟩) (.inl rfl) _
  exact ⟨heap_setCell_same w y 3 _ _ _ h.struct, h.map.upd hu (fun e => h.neY.1 e.symm), h.wal.upd hu (fun k hk e => by subst e; exact BlkOf.ne hk h.blk (by decide) rfl) (fun k hk e => by subst e; exact h.neY.2.1 hk), ⟨h.fits.1, h.fits.2.1, h.fits.2.2.1, ha⟩⟩
set_option maxRecDepth 100000 in
theorem FilIn.setFault {w : World} {y b m x : Nat} {gv : Value} {F : St} (h : FilIn w y b m x gv F) (k : Int) : FilIn (w.setCell ⟨y, 6, none⟩ (.int .i64 k)) y b m x gv { F with fault := k } := by
  have hu : Upd (fun k => k = y) w (w.setCell ⟨y, 6, none⟩ (.int .i64 k)) := (Upd.refl (fun k => k = y) w).setCell (p := ⟨y, 6, none⟩) (.inl rfl) _
  exact ⟨heap_setCell_same w y 6 _ _ _ h.struct, h.map.upd hu (fun e => h.neY.1 e.symm), h.wal.upd hu (fun k hk e => by subst e; exact BlkOf.ne hk h.blk (by decide) rfl) (fun k hk e => by subst e; exact h.neY.2.1 hk), h.fits⟩
def laidRow (b x c2 c5 : Nat) : Array Value := #[.func (.func 136) #[] #[.pointer (some ⟨c2, 0, none⟩), .pointer (some ⟨c5, 0, none⟩)], .func (.func 75) #[.pointer (some ⟨b, 0, none⟩)] #[], .func (.func 138) #[] #[.pointer (some ⟨c2, 0, none⟩)], .func (.func 75) #[.pointer (some ⟨b, 0, none⟩)] #[], .func (.func 33) #[.pointer (some ⟨x, 0, none⟩)] #[]]
set_option maxRecDepth 100000 in
theorem laid_do {V : World} {y b m x c2 c5 : Nat} {gv : Value} {fp : Nat → Prop} {F : St} {S : T} {D : Dsk} (h : LayAt V y b m x c2 c5 gv fp F S D) (hs : S.length ≤ 1000000) (hloose : D.loose.length ≤ 300000000) (nq : Nat) :
    Calls Tryz.prog 96 #[.pointer (some ⟨y, 0, none⟩), .slice (some ⟨V.heap.size, 0, none⟩) 5 5] ((V.alloc (.cells (laidRow b x c2 c5) 43)).drewN nq) fun e w' => e = .returned (.int .i64 (doG (laidFs F S) (D, F.w)).2) ∧ ∃ fp' gv', DiskAt w' b (doG (laidFs F S) (D, F.w)).1.1 fp' ∧ FilIn w' y b m x gv' { F with w := (doG (laidFs F S) (D, F.w)).1.2, fault := if (doG (laidFs F S) (D, F.w)).2 = 0 then F.fault else (doG (laidFs F S) (D, F.w)).2 } ∧ ¬ fp' m ∧ Upd (fun k => fp k ∨ k = y ∨ walBlocks x gv k) V w' ∧ Stays fp fp' V ∧ Stays (walBlocks x gv) (walBlocks x gv') V ∧ w'.heap[c2]? = some (.cells #[.pointer (some ⟨y, 0, none⟩)] 25) := by
  have hb : Below V.heap.size V ((V.alloc (.cells (laidRow b x c2 c5) 43)).drewN nq) := ((Below.refl _ _).alloc (Nat.le_refl _) _).trans ((below_drawn _ nq).mono (by rw [World.size_alloc]; omega))
  have hrow : ((V.alloc (.cells (laidRow b x c2 c5) 43)).drewN nq).heap[V.heap.size]? = some (.cells (laidRow b x c2 c5) 43) := ((below_drawn _ nq).block V.heap.size (by rw [World.size_alloc]; omega)).trans (heap_alloc_new V _)
  have h0 := h.below hb
  have hbu := Upd.of_below (F := fun k => fp k ∨ k = y ∨ walBlocks x gv k) hb
  have hbs := hb.size
  generalize (V.alloc (.cells (laidRow b x c2 c5) 43)).drewN nq = w0 at *
  have hst : ∀ {P P' : Nat → Prop}, Stays P P' w0 → Stays P P' V := fun hs i hi => (hs i hi).imp id (fun e => Nat.le_trans hbs e)
  generalize V.heap.size = g at *
  have hg : ¬ (fp g ∨ walBlocks x gv g) := fun e => by
    rcases e with e | e
    · exact h0.disk.noBlk _ e (by decide) (by decide) ⟨_, _, hrow⟩
    · rcases h0.fil.wal.kind e with k | k
      · exact BlkOf.ne ⟨_, _, hrow⟩ k (by decide) rfl
      · exact BlkOf.ne ⟨_, _, hrow⟩ k (by decide) rfl
  refine (fdo_any (I := LaidI w0 y b m x c2 c5 fp gv F S D.loose.length) (J := fun E W => ∃ k, LaidI w0 y b m x c2 c5 fp gv F S D.loose.length k E W) (s0 := (D, F.w)) (cap := 5) (g := g) (n := 5)
    ⟨fp, gv, h0, Upd.refl _ _, fun _ h => .inl h, fun _ h => .inl h, Nat.le_add_right _ _⟩ (fns_laid hs hloose) ?_ rfl (Nat.le_refl 5) ?_).mono ?_
  · rintro k E W ⟨fp1, gv1, g1, g2, g3, g4, g5⟩ i u hu
    rw [cell_of_row W g i _ _ _ ((g2.block g (blk_lt hrow) hg).trans hrow), ← hu]
    show (laidRow b x c2 c5)[i]? = _
    rw [← Array.getElem?_toList]; rfl
  · rintro E W ⟨k, fp1, gv1, g1, g2, g3, g4, g5⟩
    have c := g1.fil.cells
    exact ⟨⟨_, c.2.2.2.2.2.2.1⟩, c.2.2.2.2.2.2.2 6⟩
  · generalize doG (laidFs F S) (D, F.w) = r
    rintro e w' ⟨rfl, r1, r2⟩
    refine ⟨rfl, ?_⟩
    by_cases hr : r.2 = 0
    · obtain ⟨fp1, gv1, g1, g2, g3, g4, g5⟩ := r1 hr
      rw [if_pos hr]
      exact ⟨fp1, gv1, g1.disk, g1.fil, g1.ap, hbu.trans (g2.mono (fun i hi => hi.elim .inl (fun e => .inr (.inr e)))) (fun i hi => .inl hi), hst g3, hst g4, g1.c2⟩
    · obtain ⟨W, ⟨k, fp1, gv1, g1, g2, g3, g4, g5⟩, rfl⟩ := r2 hr
      rw [if_neg hr]
      have hu : Upd (fun k => k = y) W (W.setCell ⟨y, 6, none⟩ (.int .i64 r.2)) := (Upd.refl (fun k => k = y) W).setCell (p := ⟨y, 6, none⟩) (.inl rfl) _
      refine ⟨fp1, gv1, g1.disk.upd hu (fun k hk e => by subst e; exact files_apart g1.disk g1.fil g1.ap k (.inl rfl) hk), g1.fil.setFault r.2, g1.ap, (hbu.trans (g2.mono (fun i hi => hi.elim .inl (fun e => .inr (.inr e)))) (fun i hi => .inl hi)).trans hu (fun i hi => .inl (.inr (.inl hi))), hst g3, hst g4, (hu.block c2 (blk_lt g1.c2) (fun e => by subst e; exact BlkOf.ne ⟨_, _, g1.c2⟩ g1.fil.blk (by decide) rfl)).trans g1.c2⟩
set_option maxRecDepth 100000 in
set_option maxHeartbeats 4000000 in
theorem flaid_any {w : World} {y b m x mv : Nat} {gv : Value} {fp : Nat → Prop} {F : St} {D : Dsk} {A : M} (hd : DiskAt w b D fp) (hf : FilIn w y b m x gv F) (ap : ¬ fp m) (hM : FilMap w mv A) (hg : Fil.Good A) (hc : used A ≤ 1000000) (hloose : D.loose.length ≤ 300000000) :
    Calls Tryz.prog 95 #[.pointer (some ⟨y, 0, none⟩), .map (some mv)] w fun e w' => FPost w y b m x gv fp ((laidS D F A).1, { (laidS D F A).2.1 with m := F.m }, (laidS D F A).2.2) m e w' := by
  have HD := Lib.hid hd; have HF := Lib.hid hf
  have hb0 := (Below.refl w.heap.size w).alloc (Nat.le_refl _) (.cells #[.pointer (some ⟨y, 0, none⟩)] 25)
  have HB0 := Lib.hid hb0
  have HBY := Lib.hid (fbytes_any (hM.below hb0) hg hc)
  have HC0 := Lib.hid (heap_alloc_new w (.cells #[.pointer (some ⟨y, 0, none⟩)] 25))
  have hyl := hf.lt y (.inl rfl)
  have har := hf.fits.2.2.2
  have e1 := area_wrap har
  have hal : 1 - F.area ≤ 1 := by omega
  have HLD := Lib.hid (laid_doG D F A)
  have hsl : (Fil.bytes A).length ≤ 1000000 := by rw [bytes_length]; exact hc
  clear hd hf hb0 hM
  generalize Fil.bytes A = S at *
  go_enter Tryz.func95, Tryz.ntmps95
  go_wp2_with fail
  refine HBY.out.mono ?_
  rintro e w1 ⟨rfl, hb1⟩
  have HB1 := Lib.hid (HB0.out.trans (hb1.mono HB0.out.size))
  have hc2 := (hb1.block w.heap.size (blk_lt HC0.out)).trans HC0.out
  have HC2 := Lib.hid hc2
  have c0 := cell_box hc2
  have HF1 := Lib.hid (HF.out.below HB1.out)
  obtain ⟨_, _, _, d3, _, _, _, df⟩ := HF1.out.cells
  have df3 := df 3
  have hlt0 : w.heap.size < w1.heap.size := blk_lt hc2
  have hyl1 : y < w1.heap.size := by omega
  clear hb1 hc2 df
  go_wp2_with fail
  go_region
  have hus : Upd (fun k => k = y) w1 (w1.setCell ⟨y, 3, none⟩ (.int .i64 ((1 - F.area : Nat) : Int))) := (Upd.refl (fun k => k = y) w1).setCell (p := ⟨y, 3, none⟩) (.inl rfl) _
  have hb5 : Below (w1.setCell ⟨y, 3, none⟩ (.int .i64 ((1 - F.area : Nat) : Int))).heap.size (w1.setCell ⟨y, 3, none⟩ (.int .i64 ((1 - F.area : Nat) : Int))) (((w1.setCell ⟨y, 3, none⟩ (.int .i64 ((1 - F.area : Nat) : Int))).alloc (.cells #[.string (bs S)] 9)).drew) := ((Below.refl _ _).alloc (Nat.le_refl _) _).drew
  have hn5 : (((w1.setCell ⟨y, 3, none⟩ (.int .i64 ((1 - F.area : Nat) : Int))).alloc (.cells #[.string (bs S)] 9)).drew).heap[w1.heap.size]? = some (.cells #[.string (bs S)] 9) := by
    have := heap_alloc_new (w1.setCell ⟨y, 3, none⟩ (.int .i64 ((1 - F.area : Nat) : Int))) (.cells #[.string (bs S)] 9)
    rwa [show (w1.setCell ⟨y, 3, none⟩ (.int .i64 ((1 - F.area : Nat) : Int))).heap.size = w1.heap.size by simp [World.setCell]] at this
  have hd1 := HD.out.below HB1.out
  have hys : ∀ k, fp k → ¬ k = y := fun k hk e => by subst e; exact files_apart hd1 HF1.out ap k (.inl rfl) hk
  have hfa := (HF1.out.setArea (1 - F.area) hal).below hb5
  have hc2s := (hb5.block w.heap.size (by simp [World.setCell]; omega)).trans ((hus.block w.heap.size hlt0 (by omega)).trans HC2.out)
  have hl3 : LayAt (((w1.setCell ⟨y, 3, none⟩ (.int .i64 ((1 - F.area : Nat) : Int))).alloc (.cells #[.string (bs S)] 9)).drew) y b m x w.heap.size w1.heap.size gv fp { F with area := 1 - F.area } S D := ⟨(hd1.upd hus hys).below hb5, hfa, hc2s, hn5, ap⟩
  have hu3 : Upd (fun k => fp k ∨ k = y ∨ walBlocks x gv k) w (((w1.setCell ⟨y, 3, none⟩ (.int .i64 ((1 - F.area : Nat) : Int))).alloc (.cells #[.string (bs S)] 9)).drew) := ((Upd.of_below (F := fun k => fp k ∨ k = y ∨ walBlocks x gv k) HB1.out).trans (hus.mono (fun i hi => .inr (.inl hi))) (fun i hi => .inl hi)).trans (Upd.of_below hb5) (fun i hi => .inl hi)
  have HU3 := Lib.hid hu3; have HL3 := Lib.hid hl3
  clear hus hb5 hn5 hd1 hys hfa hc2s hu3 hl3 d3 df3 e1 c0
  generalize (((w1.setCell ⟨y, 3, none⟩ (.int .i64 ((1 - F.area : Nat) : Int))).alloc (.cells #[.string (bs S)] 9)).drew) = w3 at *
  have HDO := Lib.hid (fun nq => laid_do HL3.out hsl hloose nq)
  generalize doG (laidFs { F with area := 1 - F.area } S) (D, F.w) = r at *
  have K1 := Lib.hid (fun (V : World) (f : FilIn V y b m x gv { F with area := 1 - F.area }) (h : V.heap[w.heap.size]? = some (.cells #[.pointer (some ⟨y, 0, none⟩)] 25)) => (⟨cell_box h, f.cells.1, f.cells.2.2.2.2.2.1⟩ : V.cell? ⟨w.heap.size, 0, none⟩ = some (.pointer (some ⟨y, 0, none⟩)) ∧ V.cell? ⟨y, 0, none⟩ = some (.pointer (some ⟨b, 0, none⟩)) ∧ V.cell? ⟨y, 5, none⟩ = some (.pointer (some ⟨x, 0, none⟩))))
  obtain ⟨d1, d2, d3⟩ := K1.out _ HL3.out.fil HL3.out.c2
  go_wp2_with fail
  go_region_held3 (fun V => V.cell? ⟨w.heap.size, 0, none⟩ = some (.pointer (some ⟨y, 0, none⟩)) ∧ V.cell? ⟨y, 0, none⟩ = some (.pointer (some ⟨b, 0, none⟩)) ∧ V.cell? ⟨y, 5, none⟩ = some (.pointer (some ⟨x, 0, none⟩)))
    (first | exact ⟨d1, d2, d3⟩ | exact ⟨c1, HF4.out.cells.1, HF4.out.cells.2.2.2.2.2.1⟩ | go_keep)
    (first
      | (go_at_call 96; refine (HDO.out 1).mono ?_; rintro e w4 ⟨rfl, fp4, gv4, g1, g2, g3, g4, g5, g6, g7⟩; have c1 := cell_box g7; have HF4 := Lib.hid g2; have HG := Lib.hid (And.intro g1 (And.intro g3 (And.intro g4 (And.intro g5 g6)))); clear g1 g2 g3 g4 g5 g6 g7))
  all_goals
    go_wp2_with fail
    go_ret
    unfold FPost
    rw [HLD.out]
    exact ⟨rfl, fp4, gv4, HG.out.1, HF4.out, HG.out.2.1, HU3.out.trans HG.out.2.2.1 (fun i hi => .inl hi), fun i hi => (HG.out.2.2.2.1 i hi).imp id (fun e => Nat.le_trans HU3.out.size e), fun i hi => (HG.out.2.2.2.2 i hi).imp id (fun e => Nat.le_trans HU3.out.size e)⟩
end Go.Proofs.YtoaihngckcbhiaaGreatDoor
namespace Go.Proofs.YtoaihngckcbhiaaGreatDoor
open Go.RowKit Go.Maps
open Fil
set_option maxRecDepth 100000 in
theorem FilIn.setMap {w : World} {y b m x mv : Nat} {gv : Value} {F : St} {A : M} (h : FilIn w y b m x gv F) (hM : FilMap w mv A) : FilIn (w.setCell ⟨y, 4, none⟩ (.map (some mv))) y b mv x gv { F with m := A } := by
  have hu : Upd (fun k => k = y) w (w.setCell ⟨y, 4, none⟩ (.map (some mv))) := (Upd.refl (fun k => k = y) w).setCell (p := ⟨y, 4, none⟩) (.inl rfl) _
  exact ⟨heap_setCell_same w y 4 _ _ _ h.struct, hM.upd hu (fun e => hM.noBlk (e ▸ h.blk)), h.wal.upd hu (fun k hk e => by subst e; exact BlkOf.ne hk h.blk (by decide) rfl) (fun k hk e => by subst e; exact h.neY.2.1 hk), h.fits⟩
theorem laid_m (D : Dsk) (F : St) (A : M) : (laidS D F A).2.1.m = if (laidS D F A).2.2 = 0 then A else F.m := by rw [laid_doG]
set_option maxRecDepth 100000 in
theorem append_do {V : World} {y b m x c2 c6 cap : Nat} {gv : Value} {fp : Nat → Prop} {F : St} {D : Dsk} {q : Option Addr} {G : List T} (hd : DiskAt V b D fp) (hf : FilIn V y b m x gv F) (ap : ¬ fp m) (h2 : V.heap[c2]? = some (.cells #[.pointer (some ⟨y, 0, none⟩)] 25)) (h6 : V.heap[c6]? = some (.cells #[.slice q G.length cap] 30)) (hc6 : ¬ walBlocks x gv c6)
    (hx : TextsAt V q G) (hap : ∀ p, q = some p → G ≠ [] → ¬ fp p.block ∧ ¬ walBlocks x gv p.block) (hlen : G.length ≤ 1000000) (hsum : rowLen G ≤ 1000000) (hloose : D.loose.length ≤ 400000000) (hgl : F.w.groups.length ≤ 1000000) (nq : Nat) :
    Calls Tryz.prog 96 #[.pointer (some ⟨y, 0, none⟩), .slice (some ⟨V.heap.size, 0, none⟩) 1 1] ((V.alloc (.cells #[.func (.func 97) #[] #[.pointer (some ⟨c2, 0, none⟩), .pointer (some ⟨c6, 0, none⟩)]] 43)).drewN nq) fun e w' => e = .returned (.int .i64 (wappend D F.w G).2.2) ∧ ∃ fp' gv', DiskAt w' b (wappend D F.w G).1 fp' ∧ FilIn w' y b m x gv' { F with w := (wappend D F.w G).2.1, fault := if (wappend D F.w G).2.2 = 0 then F.fault else (wappend D F.w G).2.2 } ∧ ¬ fp' m ∧ Upd (fun k => fp k ∨ k = y ∨ walBlocks x gv k) V w' ∧ Stays fp fp' V ∧ Stays (walBlocks x gv) (walBlocks x gv') V ∧ w'.heap[c2]? = some (.cells #[.pointer (some ⟨y, 0, none⟩)] 25) := by
  have hb : Below V.heap.size V ((V.alloc (.cells #[.func (.func 97) #[] #[.pointer (some ⟨c2, 0, none⟩), .pointer (some ⟨c6, 0, none⟩)]] 43)).drewN nq) := ((Below.refl _ _).alloc (Nat.le_refl _) _).trans ((below_drawn _ nq).mono (by rw [World.size_alloc]; omega))
  have hrow : ((V.alloc (.cells #[.func (.func 97) #[] #[.pointer (some ⟨c2, 0, none⟩), .pointer (some ⟨c6, 0, none⟩)]] 43)).drewN nq).heap[V.heap.size]? = some (.cells #[.func (.func 97) #[] #[.pointer (some ⟨c2, 0, none⟩), .pointer (some ⟨c6, 0, none⟩)]] 43) := ((below_drawn _ nq).block V.heap.size (by rw [World.size_alloc]; omega)).trans (heap_alloc_new V _)
  have hd0 := hd.below hb
  have hf0 := hf.below hb
  have hx0 := hx.below hb
  have h20 := (hb.block c2 (blk_lt h2)).trans h2
  have h60 := (hb.block c6 (blk_lt h6)).trans h6
  have hbu := Upd.of_below (F := fun k => fp k ∨ k = y ∨ walBlocks x gv k) hb
  have hst : ∀ {P P' : Nat → Prop}, Stays P P' ((V.alloc (.cells #[.func (.func 97) #[] #[.pointer (some ⟨c2, 0, none⟩), .pointer (some ⟨c6, 0, none⟩)]] 43)).drewN nq) → Stays P P' V := fun hs i hi => (hs i hi).imp id (fun e => Nat.le_trans hb.size e)
  generalize (V.alloc (.cells #[.func (.func 97) #[] #[.pointer (some ⟨c2, 0, none⟩), .pointer (some ⟨c6, 0, none⟩)]] 43)).drewN nq = w0 at *
  generalize V.heap.size = g at *
  have hk : ∀ {k t}, BlkOf w0 k t → t ≠ 72 → t ≠ 123 → t ≠ 135 → t ≠ 30 → ¬ (fp k ∨ walBlocks x gv k) := fun hb h1 h2 h3 h4 e => by
    rcases e with e | e
    · exact hd0.noBlk _ e h1 h2 hb
    · rcases hf0.wal.kind e with g | g
      · exact BlkOf.ne hb g h3 rfl
      · exact BlkOf.ne hb g h4 rfl
  refine (fdo_any (σ := Dsk × WLog) (I := fun k E W => (k = 0 → W = w0 ∧ E = (D, F.w)) ∧ ∃ fp1 gv1, DiskAt W b E.1 fp1 ∧ WalIn W x b gv1 E.2 ∧ Upd (fun k => fp k ∨ walBlocks x gv k) w0 W ∧ Stays fp fp1 w0 ∧ Stays (walBlocks x gv) (walBlocks x gv1) w0)
    (J := fun E W => ∃ fp1 gv1, DiskAt W b E.1 fp1 ∧ WalIn W x b gv1 E.2 ∧ Upd (fun k => fp k ∨ walBlocks x gv k) w0 W ∧ Stays fp fp1 w0 ∧ Stays (walBlocks x gv) (walBlocks x gv1) w0) (s0 := (D, F.w)) (cap := 1) (g := g) (n := 1) (fs := [fun E => (((wappend E.1 E.2 G).1, (wappend E.1 E.2 G).2.1), (wappend E.1 E.2 G).2.2)])
    (vs := [.func (.func 97) #[] #[.pointer (some ⟨c2, 0, none⟩), .pointer (some ⟨c6, 0, none⟩)]])
    ⟨fun _ => ⟨rfl, rfl⟩, fp, gv, hd0, hf0.wal, Upd.refl _ _, fun _ h => .inl h, fun _ h => .inl h⟩ ⟨rfl, fun i h h' => ?_⟩ ?_ rfl (by omega) ?_).mono ?_
  · match i, h with
    | 0, _ =>
      refine ⟨_, _, _, rfl, enters_of Tryz.func97 (by kernel_rfl) rfl, fun E W hI => ?_⟩
      obtain ⟨rfl, rfl⟩ := hI.1 rfl
      refine (commit2_any hd0 hf0 ap h20 h60 hc6 hx0 hap hlen hsum hloose hgl).mono fun e W' hp => ?_
      exact ⟨hp.1, fun _ => ⟨fun h => absurd h (by omega), hp.2⟩, fun _ => hp.2⟩
  · rintro k E W ⟨_, fp1, gv1, g1, g2, g3, g4, g5⟩ i u hu
    rw [cell_of_row W g i _ _ _ ((g3.block g (blk_lt hrow) (hk ⟨_, _, hrow⟩ (by decide) (by decide) (by decide) (by decide))).trans hrow), ← hu]
    rw [← Array.getElem?_toList]
  · rintro E W ⟨fp1, gv1, g1, g2, g3, g4, g5⟩
    have e := (g3.block y (blk_lt hf0.struct) (hk hf0.blk (by decide) (by decide) (by decide) (by decide))).trans hf0.struct
    exact ⟨⟨.int .i64 F.fault, by rw [cell_of_row W y _ _ _ _ e]; rfl⟩, frozen_of_row W y 6 _ _ e⟩
  · have hG1 : doG [fun E : Dsk × WLog => (((wappend E.1 E.2 G).1, (wappend E.1 E.2 G).2.1), (wappend E.1 E.2 G).2.2)] (D, F.w) = (((wappend D F.w G).1, (wappend D F.w G).2.1), (wappend D F.w G).2.2) := by
      by_cases hr : (wappend D F.w G).2.2 = 0 <;> simp [doG, hr]
    rw [hG1]
    generalize wappend D F.w G = r at *
    rintro e w' ⟨rfl, r1, r2⟩
    refine ⟨rfl, ?_⟩
    have key : ∀ W, (∃ fp1 gv1, DiskAt W b r.1 fp1 ∧ WalIn W x b gv1 r.2.1 ∧ Upd (fun k => fp k ∨ walBlocks x gv k) w0 W ∧ Stays fp fp1 w0 ∧ Stays (walBlocks x gv) (walBlocks x gv1) w0) → ∃ fp' gv', DiskAt W b r.1 fp' ∧ FilIn W y b m x gv' { F with w := r.2.1 } ∧ ¬ fp' m ∧ Upd (fun k => fp k ∨ k = y ∨ walBlocks x gv k) V W ∧ Stays fp fp' V ∧ Stays (walBlocks x gv) (walBlocks x gv') V ∧ W.heap[c2]? = some (.cells #[.pointer (some ⟨y, 0, none⟩)] 25) := by
      rintro W ⟨fp1, gv1, g1, g2, g3, g4, g5⟩
      exact ⟨fp1, gv1, g1, ⟨(g3.block y (blk_lt hf0.struct) (hk hf0.blk (by decide) (by decide) (by decide) (by decide))).trans hf0.struct, hf0.map.upd g3 (fun e => e.elim ap hf0.neY.2.2), g2, hf0.fits⟩, fun e => (g4 m e).elim ap (fun e2 => by have := hf0.map.lt; omega), hbu.trans (g3.mono (fun i hi => hi.elim .inl (fun e => .inr (.inr e)))) (fun i hi => .inl hi), hst g4, hst g5, (g3.block c2 (blk_lt h20) (hk ⟨_, _, h20⟩ (by decide) (by decide) (by decide) (by decide))).trans h20⟩
    by_cases hr : r.2.2 = 0
    · obtain ⟨fp1, gv1, g⟩ := key _ (r1 hr).2
      rw [if_pos hr]
      exact ⟨fp1, gv1, g⟩
    · obtain ⟨W, hW, rfl⟩ := r2 hr
      obtain ⟨fp1, gv1, g1, g2, g3, g4, g5, g6, g7⟩ := key _ hW
      rw [if_neg hr]
      have hu : Upd (fun k => k = y) W (W.setCell ⟨y, 6, none⟩ (.int .i64 r.2.2)) := (Upd.refl (fun k => k = y) W).setCell (p := ⟨y, 6, none⟩) (.inl rfl) _
      exact ⟨fp1, gv1, g1.upd hu (fun k hk e => by subst e; exact files_apart g1 g2 g3 k (.inl rfl) hk), g2.setFault r.2.2, g3, g4.trans hu (fun i hi => .inl (.inr (.inl hi))), g5, g6, (hu.block c2 (blk_lt g7) (fun e => by subst e; exact BlkOf.ne ⟨_, _, g7⟩ g2.blk (by decide) rfl)).trans g7⟩
def CommitPost (w : World) (y b m x : Nat) (gv : Value) (fp : Nat → Prop) (r : Dsk × St × Int) (e : Ending) (w' : World) : Prop :=
  ∃ m', FPost w y b m x gv fp r m' e w' ∧ (m' = m ∨ w.heap.size ≤ m')
section
variable {w : World} {y b m x cap : Nat} {gv : Value} {fp : Nat → Prop} {F : St} {D : Dsk} {a : Option Addr} {l : List Chg}
theorem commit_same {w' : World} {e : Ending} {k : Int} (hd : DiskAt w b D fp) (hf : FilIn w y b m x gv F) (ap : ¬ fp m) (hr : commitS D F l = (D, F, k)) (he : e = .returned (.int .i64 k)) (hb : Below w.heap.size w w') : CommitPost w y b m x gv fp (commitS D F l) e w' := by
  rw [hr]
  exact ⟨m, ⟨he, fp, gv, hd.below hb, hf.below hb, ap, Upd.of_below hb, fun _ h => .inl h, fun _ h => .inl h⟩, .inl rfl⟩
set_option maxRecDepth 100000 in
set_option maxHeartbeats 4000000 in
theorem fcommit_bad (hd : DiskAt w b D fp) (hf : FilIn w y b m x gv F) (ap : ¬ fp m) (hL : ChgsAt w a l) (hlen : l.length ≤ 100000) (hok : ∀ c ∈ l, c.name.length ≤ maxLen ∧ c.data.length ≤ maxLen) (h0 : F.fault = 0) (hall : l.all Chg.may = false) :
    Calls Tryz.prog 42 #[.pointer (some ⟨y, 0, none⟩), .slice a l.length cap] w fun e w' => CommitPost w y b m x gv fp (commitS D F l) e w' := by
  have HD := Lib.hid hd; have HF := Lib.hid hf
  have hR : commitS D F l = (D, F, 2) := by unfold commitS; rw [if_neg (by simp [h0]), if_pos hall]
  have HR := Lib.hid hR
  have hb0 := (Below.refl w.heap.size w).alloc (Nat.le_refl _) (.cells #[.pointer (some ⟨y, 0, none⟩)] 25)
  have HB0 := Lib.hid hb0
  obtain ⟨_, _, _, _, _, _, c6, _⟩ := (hf.below hb0).cells
  have HC := Lib.hid (fcontains_any (cap := cap) (hL.below hb0) (by omega) hok)
  rw [hall] at HC
  rw [h0] at c6
  clear hd hf hR hb0 h0 hL hok hall
  go_enter Tryz.func42, Tryz.ntmps42
  go_wp2_with fail
  refine HC.out.mono ?_
  rintro e w1 ⟨rfl, hb⟩
  have HB1 := Lib.hid (HB0.out.trans (hb.mono HB0.out.size))
  clear hb
  go_wp2_with fail
  go_ret
  exact commit_same HD.out HF.out ap HR.out rfl HB1.out
set_option maxRecDepth 100000 in
set_option maxHeartbeats 8000000 in
theorem fcommit_in (hd : DiskAt w b D fp) (hf : FilIn w y b m x gv F) (ap : ¬ fp m) (hL : ChgsAt w a l) (hlen : l.length ≤ 100000) (hok : ∀ c ∈ l, c.name.length ≤ 1000000 ∧ c.data.length ≤ maxLen) (hgood : Fil.Good F.m) (hus : used (made F.m l) ≤ 1000000000) (hFl : F.m.length ≤ 1000000000) (hsz : F.size ≤ 8192) (hrow : rowLen (group l) ≤ 1000000) (hloose : D.loose.length ≤ 300000000) (hgl : F.w.groups.length ≤ 1000000)
    (h0 : F.fault = 0) (hall : l.all Chg.may = true) :
    Calls Tryz.prog 42 #[.pointer (some ⟨y, 0, none⟩), .slice a l.length cap] w fun e w' => CommitPost w y b m x gv fp (commitS D F l) e w' := by
  have HD := Lib.hid hd; have HF := Lib.hid hf; have HL := Lib.hid hL; have HOK := Lib.hid hok
  have HR : Hid (commitS D F l = if F.room < used (made F.m l) then (D, F, 4) else
      if F.fits (group l) = true then
        if (wappend D F.w (group l)).2.2 = 0 then ((wappend D F.w (group l)).1, { F with m := made F.m l, w := (wappend D F.w (group l)).2.1 }, 0)
        else ((wappend D F.w (group l)).1, { F with w := (wappend D F.w (group l)).2.1, fault := (wappend D F.w (group l)).2.2 }, (wappend D F.w (group l)).2.2)
      else laidS D F (made F.m l)) := Lib.hid (by unfold commitS; rw [if_neg (by simp [h0]), if_neg (by simp [hall])])
  have hb0 := (Below.refl w.heap.size w).alloc (Nat.le_refl _) (.cells #[.pointer (some ⟨y, 0, none⟩)] 25)
  have HB0 := Lib.hid hb0
  have HC0 := Lib.hid (heap_alloc_new w (.cells #[.pointer (some ⟨y, 0, none⟩)] 25))
  obtain ⟨_, _, _, _, _, _, c6, _⟩ := (hf.below hb0).cells
  have HC := Lib.hid (fcontains_any (cap := cap) (hL.below hb0) (by omega) (fun c hc => ⟨Nat.le_trans (hok c hc).1 (by unfold maxLen; omega), (hok c hc).2⟩))
  rw [hall] at HC
  rw [h0] at c6
  have HG := Lib.hid (show Fil.Good (made F.m l) from hgood.made hf.map.1 (List.all_eq_true.1 hall))
  have H0 := Lib.hid h0
  clear hd hf hb0 h0 hL hok hall
  go_enter Tryz.func42, Tryz.ntmps42
  go_wp2_with fail
  refine HC.out.mono ?_
  rintro e w1 ⟨rfl, hb⟩
  have HB1 := Lib.hid (HB0.out.trans (hb.mono HB0.out.size))
  have hc2 := (hb.block w.heap.size (blk_lt HC0.out)).trans HC0.out
  have HC2 := Lib.hid hc2
  have c0 := cell_box hc2
  have hf1 := HF.out.below HB1.out
  obtain ⟨_, _, _, _, c4, _, _, _⟩ := hf1.cells
  obtain ⟨es, clock, hes, hcl⟩ := hf1.map.cloned
  have HES := Lib.hid hes; have HCL := Lib.hid hcl
  clear hb hc2 c6 HC hf1 hes hcl
  go_wp2_with fail
  refine (fclone_any _ m es clock HES.out).mono ?_
  rintro e w2 ⟨rfl, rfl⟩
  have hlt0 : w.heap.size < w1.heap.size := blk_lt HC2.out
  have hba : Below w1.heap.size w1 (w1.alloc (.map es clock)) := (Below.refl _ _).alloc (Nat.le_refl _) _
  have HB2 := Lib.hid (HB1.out.trans (hba.mono HB1.out.size))
  have HL2 := Lib.hid (HL.out.below HB2.out)
  have HC2' := Lib.hid ((hba.block w.heap.size hlt0).trans HC2.out)
  have hmv : w.heap.size ≤ w1.heap.size := HB1.out.size
  clear c0 c4 HC2 HB1
  generalize w1.heap.size = mv at *
  generalize w1.alloc (.map es clock) = w2 at *
  clear hba
  go_wp2_with fail
  refine (fmade_any (cap := cap) HCL.out HL2.out (by omega) (by omega) (fun c hc => Nat.le_trans (HOK.out c hc).1 (by unfold maxLen; omega))).mono ?_
  rintro e w3 ⟨rfl, hm3, hu3⟩
  have HM3 := Lib.hid hm3
  have HB3 := Lib.hid (below_upd HB2.out hu3 (fun k e => by subst e; exact hmv) HB2.out.size)
  have hc3 := (hu3.block w.heap.size (blk_lt HC2'.out) (by omega)).trans HC2'.out
  have HC3 := Lib.hid hc3
  have c0 := cell_box hc3
  clear hm3 hu3 hc3
  have HF3 := Lib.hid (HF.out.below HB3.out)
  have HBD := Lib.hid ((Below.refl w3.heap.size w3).drew)
  have HUS := Lib.hid (fused_any (HM3.out.below HBD.out) hus)
  have K0 := Lib.hid (fun (V : World) (h : Below w3.heap.size w3 V) => (h.cell (p := ⟨w.heap.size, 0, none⟩) (blk_lt HC3.out)).trans c0)
  have HFD := Lib.hid (HF3.out.below HBD.out)
  by_cases hfull : F.room < used (made F.m l)
  · have HR1 := Lib.hid (HR.out.trans (if_pos hfull))
    have hq : (F.room : Int) < (used (made F.m l) : Int) := by omega
    clear hfull HR
    have HRM := Lib.hid (fun (V : World) (h : Below w3.drew.heap.size w3.drew V) => froom_any (HFD.out.below h))
    generalize used (made F.m l) = U at *
    generalize F.room = R at *
    go_wp2_with fail
    go_region_held3 (fun V => V.cell? ⟨w.heap.size, 0, none⟩ = some (.pointer (some ⟨y, 0, none⟩)))
      (first | exact K0.out _ HBD.out | exact K0.out _ HB4.out)
      (first
        | (go_at_call 90; refine HUS.out.mono ?_; rintro e w4 ⟨rfl, hb4⟩; have HBU := Lib.hid hb4; have HB4 := Lib.hid (HBD.out.trans (hb4.mono HBD.out.size)); clear hb4)
        | (go_at_call 91; refine (HRM.out _ HBU.out).mono ?_; rintro e w5 ⟨rfl, rfl⟩))
    all_goals
      go_wp2_with fail
      go_ret
      exact commit_same HD.out HF.out ap HR1.out rfl (HB3.out.trans (HB4.out.mono HB3.out.size))
  · have HR1 := Lib.hid (HR.out.trans (if_neg hfull))
    have hq : ¬ F.room < used (made F.m l) := hfull
    have hus2 : used (made F.m l) ≤ 1000000 := by unfold St.room at hfull; omega
    have HUS2 := Lib.hid hus2
    clear hfull HR hus2
    have HRM := Lib.hid (fun (V : World) (h : Below w3.drew.heap.size w3.drew V) => froom_any (HFD.out.below h))
    generalize hA : made F.m l = A at *
    generalize hU : used A = U at *
    generalize F.room = R at *
    go_wp2_with fail
    go_region_held3 (fun V => V.cell? ⟨w.heap.size, 0, none⟩ = some (.pointer (some ⟨y, 0, none⟩)))
      (first | exact K0.out _ HBD.out | exact K0.out _ HB4.out)
      (first
        | (go_at_call 90; refine HUS.out.mono ?_; rintro e w4 ⟨rfl, hb4⟩; have HBU := Lib.hid hb4; have HB4 := Lib.hid (HBD.out.trans (hb4.mono HBD.out.size)); clear hb4)
        | (go_at_call 91; refine (HRM.out _ HBU.out).mono ?_; rintro e w5 ⟨rfl, rfl⟩))
    have HB5 := Lib.hid (HB3.out.trans (HB4.out.mono HB3.out.size))
    have HM5 := Lib.hid (HM3.out.below HB4.out)
    have HC5 := Lib.hid ((HB4.out.block w.heap.size (blk_lt HC3.out)).trans HC3.out)
    have HL5 := Lib.hid (HL.out.below HB5.out)
    clear HBU HB4 HRM HFD K0 HUS HBD HF3 HC3 HB3 HM3 c0 HL2
    go_wp2_with fail
    refine (fgroup_any (cap := cap) HL5.out (by omega) (fun c hc => (HOK.out c hc).1)).mono ?_
    rintro e w6 ⟨q6, cap6, rfl, hr6, hb6⟩
    have hGl := group_length l
    clear hq
    generalize group l = G at *
    obtain ⟨q, capq, e6, hx6⟩ := texts_of_row hr6
    injection e6 with e6a e6b e6c
    subst e6a e6c
    have HX6 := Lib.hid hx6
    have HQ6 := Lib.hid (show ∀ p, q6 = some p → w4.heap.size ≤ p.block from fun p hp => by
      rcases hr6.2 with ⟨e1, _⟩ | ⟨g, c2, cur, e1, hbase, _⟩
      · rw [hp] at e1; simp at e1
      · rw [hp] at e1; injection e1 with e1; injection e1 with e1; subst e1; exact hbase)
    have hba : Below w6.heap.size w6 (w6.alloc (.cells #[.slice q6 G.length cap6] 30)) := (Below.refl _ _).alloc (Nat.le_refl _) _
    have h67 := hb6.trans (hba.mono hb6.size)
    have HB7 := Lib.hid (HB5.out.trans (h67.mono HB5.out.size))
    have HC7 := Lib.hid ((h67.block w.heap.size (blk_lt HC5.out)).trans HC5.out)
    have HM7 := Lib.hid (HM5.out.below h67)
    have HX7 := Lib.hid (HX6.out.below hba)
    have h6n := heap_alloc_new w6 (.cells #[.slice q6 G.length cap6] 30)
    have H67 := Lib.hid h6n
    have hcc : w.heap.size ≤ w6.heap.size := Nat.le_trans HB5.out.size hb6.size
    have c6 := cell_box h6n
    have HQW := Lib.hid (show ∀ p, q6 = some p → w.heap.size ≤ p.block from fun p hp => Nat.le_trans HB5.out.size (HQ6.out p hp))
    have HND := Lib.hid (walNeed_any G q6 cap6 _ HX7.out (by unfold maxLen; omega) (by omega))
    have HOLD := Lib.hid (show ∀ k, w.heap.size ≤ k → ¬ (fp k ∨ k = y ∨ walBlocks x gv k) from fun k hk e => by
      have h1 := HD.out.lt k
      have h2 := HF.out.lt k
      rcases e with e | e | e
      · have := h1 e; omega
      · have := h2 (.inl e); omega
      · have := h2 (.inr (.inr e)); omega)
    clear hba h67 hb6 hr6 hx6 HX6 HQ6 h6n HB5 HC5 HM5 HL5 HC2' HCL HES HB2 e6b
    have hGl2 : G.length ≤ 200000 := by omega
    clear hGl
    go_wp2_with fail
    refine HND.out.mono ?_
    rintro e w8 ⟨rfl, hb8⟩
    have HB8 := Lib.hid (HB7.out.trans (hb8.mono HB7.out.size))
    have HC8 := Lib.hid ((hb8.block w.heap.size (blk_lt HC7.out)).trans HC7.out)
    have HM8 := Lib.hid (HM7.out.below hb8)
    have HX8 := Lib.hid (HX7.out.below hb8)
    have H68 := Lib.hid ((hb8.block w6.heap.size (blk_lt H67.out)).trans H67.out)
    clear hb8 HB7 HC7 HM7 HX7 H67 HND c6
    generalize w6.heap.size = c6b at *
    have HF8 := Lib.hid (HF.out.below HB8.out)
    have c2 := cell_box HC8.out
    obtain ⟨_, _, _, _, _, c5, _, _⟩ := HF8.out.cells
    cases hge : Wal.groupE G with
    | none =>
      have HR2 := Lib.hid (HR1.out.trans (if_neg (by unfold St.fits; rw [hge]; simp)))
      have hv : groupV G = ([], 5) := by unfold groupV; rw [hge]
      rw [hv]
      clear hge hv HR1
      have HB9 := HB8; have HC9 := HC8; have HM9 := HM8
      clear c5 c2
      have HD9 := Lib.hid (HD.out.below HB9.out)
      have HF9 := Lib.hid (HF.out.below HB9.out)
      have hlm := laid_m D F A
      have hlaid := flaid_any HD9.out HF9.out ap HM9.out HG.out (by rw [hU]; exact HUS2.out) hloose
      have c2 := cell_box HC9.out
      obtain ⟨D1, F1, k1, hr⟩ : ∃ D1 F1 k1, laidS D F A = (D1, F1, k1) := ⟨_, _, _, rfl⟩
      rw [hr] at hlm hlaid HR2
      have HLA := Lib.hid hlaid
      have HLM := Lib.hid (show F1.m = if k1 = 0 then A else F.m from hlm)
      clear hlm hlaid hr
      go_wp2_with fail
      refine HLA.out.mono ?_
      rintro e w10 ⟨rfl, fp1, gv1, g1, g2, g3, g4, g5, g6⟩
      have hc10 := (g4.block w.heap.size (blk_lt HC9.out) (HOLD.out _ (Nat.le_refl _))).trans HC9.out
      have HM10 := Lib.hid (HM9.out.upd g4 (HOLD.out _ hmv))
      have c2 := cell_box hc10
      have HG1 := Lib.hid g1; have HG2 := Lib.hid (show FilIn w10 y b m x gv1 { F1 with m := F.m } from g2); have HG3 := Lib.hid g3
      have HG4 := Lib.hid ((Upd.of_below (F := fun k => fp k ∨ k = y ∨ walBlocks x gv k) HB9.out).trans g4 (fun i hi => .inl hi))
      have HG5R := Lib.hid g5
      have HG5 := Lib.hid (show Stays fp fp1 w from fun i hi => (g5 i hi).imp id (fun e => Nat.le_trans HB9.out.size e))
      have HG6 := Lib.hid (show Stays (walBlocks x gv) (walBlocks x gv1) w from fun i hi => (g6 i hi).imp id (fun e => Nat.le_trans HB9.out.size e))
      obtain ⟨_, _, _, _, c4, _, _, cf⟩ := HG2.out.cells
      have cf4 := cf 4
      clear g1 g2 g3 g4 g5 g6 cf hc10
      by_cases h0 : k1 = 0
      · subst h0
        have hFm : { ({ F1 with m := F.m } : St) with m := A } = F1 := by have := HLM.out; rw [if_pos rfl] at this; rw [← this]
        have HFM := Lib.hid hFm
        clear hFm
        go_wp2_with fail
        go_ret
        unfold CommitPost FPost
        rw [HR2.out]
        have hu : Upd (fun k => k = y) w10 (w10.setCell ⟨y, 4, none⟩ (.map (some mv))) := (Upd.refl (fun k => k = y) w10).setCell (p := ⟨y, 4, none⟩) (.inl rfl) _
        refine ⟨mv, ⟨rfl, fp1, gv1, HG1.out.upd hu (fun k hk e => by subst e; exact files_apart HG1.out HG2.out HG3.out k (.inl rfl) hk), ?_, fun e => (HG5R.out mv e).elim (fun f => HOLD.out _ hmv (.inl f)) (fun f => by have := HM9.out.lt; omega), HG4.out.trans hu (fun i hi => .inl (.inr (.inl hi))), HG5.out, HG6.out⟩, .inr hmv⟩
        have := HG2.out.setMap HM10.out
        rwa [HFM.out] at this
      · have hb1 : (k1 == 0) = false := by simp [h0]
        have hFm : ({ F1 with m := F.m } : St) = F1 := by have := HLM.out; rw [if_neg h0] at this; rw [← this]
        have HFM := Lib.hid hFm
        clear hFm h0
        go_wp2_with fail
        go_ret
        unfold CommitPost FPost
        rw [HR2.out]
        exact ⟨m, ⟨rfl, fp1, gv1, HG1.out, by rw [← HFM.out]; exact HG2.out, HG3.out, HG4.out, HG5.out, HG6.out⟩, .inl rfl⟩
    | some s =>
      have hv : groupV G = (s, 0) := by unfold groupV; rw [hge]
      rw [hv]
      have HRM := Lib.hid (fun (V : World) (h : Below w8.heap.size w8 V) => walRoom_any (HF8.out.wal.below h))
      by_cases hfit : s.length / 64 ≤ F.w.n - 1 - F.w.used
      · have HR2 := Lib.hid (HR1.out.trans (if_pos (by unfold St.fits; rw [hge]; simp [hfit])))
        have hq : ¬ F.w.n - 1 - F.w.used < s.length / 64 := by omega
        clear hge hv HR1 hfit
        generalize s.length / 64 = N at *
        generalize F.w.n - 1 - F.w.used = N2 at *
        go_wp2_with fail
        refine (HRM.out _ (Below.refl _ _)).mono ?_
        rintro e w9 ⟨rfl, hb9⟩
        have HB9 := Lib.hid (HB8.out.trans (hb9.mono HB8.out.size))
        have HC9 := Lib.hid ((hb9.block w.heap.size (blk_lt HC8.out)).trans HC8.out)
        have HM9 := Lib.hid (HM8.out.below hb9)
        have HX9 := Lib.hid (HX8.out.below hb9)
        have H69 := Lib.hid ((hb9.block c6b (blk_lt H68.out)).trans H68.out)
        clear hb9 HRM c5 c2
        have HD9 := Lib.hid (HD.out.below HB9.out)
        have HF9 := Lib.hid (HF.out.below HB9.out)
        have hcw : ¬ walBlocks x gv c6b := fun e => HOLD.out c6b hcc (.inr (.inr e))
        have happ := append_do HD9.out HF9.out ap HC9.out H69.out hcw HX9.out (fun p hp _ => ⟨fun e => HOLD.out _ (HQW.out p hp) (.inl e), fun e => HOLD.out _ (HQW.out p hp) (.inr (.inr e))⟩) (by omega) hrow (by omega) hgl 0
        have c2 := cell_box HC9.out
        obtain ⟨D1, L1, k1, hr⟩ : ∃ D1 L1 k1, wappend D F.w G = (D1, L1, k1) := ⟨_, _, _, rfl⟩
        rw [hr] at happ HR2
        have HAP := Lib.hid happ
        clear happ hr hcw
        go_wp2_with fail
        refine HAP.out.mono ?_
        rintro e w10 ⟨rfl, fp1, gv1, g1, g2, g3, g4, g5, g6, g7⟩
        have HM10 := Lib.hid (HM9.out.upd g4 (HOLD.out _ hmv))
        have c2 := cell_box g7
        have HG1 := Lib.hid g1; have HG3 := Lib.hid g3
        have HG2 := Lib.hid (show FilIn w10 y b m x gv1 { F with w := L1, fault := if k1 = 0 then F.fault else k1 } from g2)
        have HG4 := Lib.hid ((Upd.of_below (F := fun k => fp k ∨ k = y ∨ walBlocks x gv k) HB9.out).trans g4 (fun i hi => .inl hi))
        have HG5R := Lib.hid g5
        have HG5 := Lib.hid (show Stays fp fp1 w from fun i hi => (g5 i hi).imp id (fun e => Nat.le_trans HB9.out.size e))
        have HG6 := Lib.hid (show Stays (walBlocks x gv) (walBlocks x gv1) w from fun i hi => (g6 i hi).imp id (fun e => Nat.le_trans HB9.out.size e))
        obtain ⟨_, _, _, _, c4, _, _, cf⟩ := HG2.out.cells
        have cf4 := cf 4
        clear g1 g2 g3 g4 g5 g6 g7 cf
        by_cases h0 : k1 = 0
        · subst h0
          have HR3 := Lib.hid (HR2.out.trans (if_pos rfl))
          clear HR2
          go_wp2_with fail
          go_ret
          unfold CommitPost FPost
          rw [HR3.out]
          have hu : Upd (fun k => k = y) w10 (w10.setCell ⟨y, 4, none⟩ (.map (some mv))) := (Upd.refl (fun k => k = y) w10).setCell (p := ⟨y, 4, none⟩) (.inl rfl) _
          exact ⟨mv, ⟨rfl, fp1, gv1, HG1.out.upd hu (fun k hk e => by subst e; exact files_apart HG1.out HG2.out HG3.out k (.inl rfl) hk), HG2.out.setMap HM10.out, fun e => (HG5R.out mv e).elim (fun f => HOLD.out _ hmv (.inl f)) (fun f => by have := HM9.out.lt; omega), HG4.out.trans hu (fun i hi => .inl (.inr (.inl hi))), HG5.out, HG6.out⟩, .inr hmv⟩
        · have hb1 : (k1 == 0) = false := by simp [h0]
          have HR3 := Lib.hid (HR2.out.trans (if_neg h0))
          have HG2' : Hid (FilIn w10 y b m x gv1 { F with w := L1, fault := k1 }) := Lib.hid (by have := HG2.out; rwa [if_neg h0] at this)
          clear HR2 h0
          go_wp2_with fail
          go_ret
          unfold CommitPost FPost
          rw [HR3.out]
          exact ⟨m, ⟨rfl, fp1, gv1, HG1.out, HG2'.out, HG3.out, HG4.out, HG5.out, HG6.out⟩, .inl rfl⟩
      · have HR2 := Lib.hid (HR1.out.trans (if_neg (by unfold St.fits; rw [hge]; simp [hfit])))
        have hq : F.w.n - 1 - F.w.used < s.length / 64 := by omega
        clear hge hv HR1 hfit
        generalize s.length / 64 = N at *
        generalize F.w.n - 1 - F.w.used = N2 at *
        go_wp2_with fail
        refine (HRM.out _ (Below.refl _ _)).mono ?_
        rintro e w9 ⟨rfl, hb9⟩
        have HB9 := Lib.hid (HB8.out.trans (hb9.mono HB8.out.size))
        have HC9 := Lib.hid ((hb9.block w.heap.size (blk_lt HC8.out)).trans HC8.out)
        have HM9 := Lib.hid (HM8.out.below hb9)
        clear hb9 HRM c5 c2
        have HD9 := Lib.hid (HD.out.below HB9.out)
        have HF9 := Lib.hid (HF.out.below HB9.out)
        have hlm := laid_m D F A
        have hlaid := flaid_any HD9.out HF9.out ap HM9.out HG.out (by rw [hU]; exact HUS2.out) hloose
        have c2 := cell_box HC9.out
        obtain ⟨D1, F1, k1, hr⟩ : ∃ D1 F1 k1, laidS D F A = (D1, F1, k1) := ⟨_, _, _, rfl⟩
        rw [hr] at hlm hlaid HR2
        have HLA := Lib.hid hlaid
        have HLM := Lib.hid (show F1.m = if k1 = 0 then A else F.m from hlm)
        clear hlm hlaid hr
        go_wp2_with fail
        refine HLA.out.mono ?_
        rintro e w10 ⟨rfl, fp1, gv1, g1, g2, g3, g4, g5, g6⟩
        have hc10 := (g4.block w.heap.size (blk_lt HC9.out) (HOLD.out _ (Nat.le_refl _))).trans HC9.out
        have HM10 := Lib.hid (HM9.out.upd g4 (HOLD.out _ hmv))
        have c2 := cell_box hc10
        have HG1 := Lib.hid g1; have HG2 := Lib.hid (show FilIn w10 y b m x gv1 { F1 with m := F.m } from g2); have HG3 := Lib.hid g3
        have HG4 := Lib.hid ((Upd.of_below (F := fun k => fp k ∨ k = y ∨ walBlocks x gv k) HB9.out).trans g4 (fun i hi => .inl hi))
        have HG5R := Lib.hid g5
        have HG5 := Lib.hid (show Stays fp fp1 w from fun i hi => (g5 i hi).imp id (fun e => Nat.le_trans HB9.out.size e))
        have HG6 := Lib.hid (show Stays (walBlocks x gv) (walBlocks x gv1) w from fun i hi => (g6 i hi).imp id (fun e => Nat.le_trans HB9.out.size e))
        obtain ⟨_, _, _, _, c4, _, _, cf⟩ := HG2.out.cells
        have cf4 := cf 4
        clear g1 g2 g3 g4 g5 g6 cf hc10
        by_cases h0 : k1 = 0
        · subst h0
          have hFm : { ({ F1 with m := F.m } : St) with m := A } = F1 := by have := HLM.out; rw [if_pos rfl] at this; rw [← this]
          have HFM := Lib.hid hFm
          clear hFm
          go_wp2_with fail
          go_ret
          unfold CommitPost FPost
          rw [HR2.out]
          have hu : Upd (fun k => k = y) w10 (w10.setCell ⟨y, 4, none⟩ (.map (some mv))) := (Upd.refl (fun k => k = y) w10).setCell (p := ⟨y, 4, none⟩) (.inl rfl) _
          refine ⟨mv, ⟨rfl, fp1, gv1, HG1.out.upd hu (fun k hk e => by subst e; exact files_apart HG1.out HG2.out HG3.out k (.inl rfl) hk), ?_, fun e => (HG5R.out mv e).elim (fun f => HOLD.out _ hmv (.inl f)) (fun f => by have := HM9.out.lt; omega), HG4.out.trans hu (fun i hi => .inl (.inr (.inl hi))), HG5.out, HG6.out⟩, .inr hmv⟩
          have := HG2.out.setMap HM10.out
          rwa [HFM.out] at this
        · have hb1 : (k1 == 0) = false := by simp [h0]
          have hFm : ({ F1 with m := F.m } : St) = F1 := by have := HLM.out; rw [if_neg h0] at this; rw [← this]
          have HFM := Lib.hid hFm
          clear hFm h0
          go_wp2_with fail
          go_ret
          unfold CommitPost FPost
          rw [HR2.out]
          exact ⟨m, ⟨rfl, fp1, gv1, HG1.out, by rw [← HFM.out]; exact HG2.out, HG3.out, HG4.out, HG5.out, HG6.out⟩, .inl rfl⟩
end
end Go.Proofs.YtoaihngckcbhiaaGreatDoor
