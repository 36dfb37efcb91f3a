/- Disk.Copy, walked. -/
import Derived.Test.YthbdflmckfgleaaDiskWrite
import Derived.Laws.Externs
import Derived.MapKept
namespace Go.Proofs.Ythbdflmckfgleaa
open Go.RowKit Go.Maps

theorem SecMap.cloned {w : World} {m N : Nat} {f : Nat → List UInt8} (h : SecMap w m N f) : ∃ es clock, w.heap[m]? = some (.map es clock) ∧ SecMap (w.alloc (.map es clock)) w.heap.size N f := by
  obtain ⟨kv, ⟨hn, D, ⟨es, clock, hb, F, hs, hD⟩, rest⟩, h2⟩ := h
  exact ⟨es, clock, hb, kv, ⟨hn, D, ⟨es, clock, (MapKept.heap_alloc w _).1, F, hs, hD⟩, rest⟩, h2⟩

theorem eql_map (w : World) (p : Option Nat) : (binOp .eql 93 (.map p) (.map none)).run Try.prog w = .ok (.bool p.isNone) w := by
  have h : ∀ d, (Op.equalIn (d + 1) 93 (.map p) (.map none)).run Try.prog w = .ok p.isNone w := fun d => by
    cases p <;> simp [Op.equalIn, run_underlying Try.underlying93]
  simp only [binOp]
  simp [show Op.equal 93 (.map p) (.map none) = Op.equalIn (9999 + 1) 93 (.map p) (.map none) from rfl, h 9999]

set_option maxRecDepth 100000 in
set_option maxHeartbeats 2000000 in
theorem mclone_any (w : World) (m : Nat) (es : Array MapEntry) (clock : Nat) (hb : w.heap[m]? = some (.map es clock)) :
    Calls Try.prog 73 #[.map (some m)] w fun e w' => e = .returned (.map (some w.heap.size)) ∧ w' = w.alloc (.map es clock) := by
  have hq := fun w => eql_map w (some m)
  have hext : (Extern.MapsClone.clone #[.iface 93 (.map (some m))]).run Try.prog w = .ok (.iface 93 (.map (some w.heap.size))) (w.alloc (.map es clock)) := by
    have e : Extern.MapsClone.clone #[.iface 93 (.map (some m))] = (getObj m >>= fun o => match o with
        | .map entries clock => (newObj (.map entries clock) >>= fun n => pure (.iface 93 (.map (some n))))
        | _ => stuck "maps.clone: a map expected") := rfl
    rw [e]
    simp [MapKept.run_getObj_map hb, Result.andThen, go_sem]
  have hta : ∀ W, (Instr.typeAssert (.iface 93 (.map (some w.heap.size))) 20 93 false).run Try.prog W = .ok (.map (some w.heap.size)) W := fun W => by
    simp [Instr.typeAssert, run_underlying Try.underlying93, go_sem, Result.andThen]
  go_enter Try.func73, Try.ntmps73
  have hcall := run_callFunc_extern (P := Try.prog) Try.func101 (by kernel_rfl) (by kernel_rfl) (by kernel_rfl) (e := Extern.MapsClone.clone) (by kernel_rfl) #[.iface 93 (.map (some m))] w
  rw [hext] at hcall
  simp only [Result.andThen] at hcall
  go_wp2_with fail
  go_ret
  exact ⟨rfl, rfl⟩

theorem eql_slice (w : World) (p : Option Addr) (n c : Nat) : (binOp .eql 94 (.slice p n c) (.slice none 0 0)).run Try.prog w = .ok (.bool p.isNone) w := by
  have h : ∀ d, (Op.equalIn (d + 1) 94 (.slice p n c) (.slice none 0 0)).run Try.prog w = .ok p.isNone w := fun d => by
    cases p <;> simp [Op.equalIn, run_underlying Try.underlying94]
  simp only [binOp]
  simp [show Op.equal 94 (.slice p n c) (.slice none 0 0) = Op.equalIn (9999 + 1) 94 (.slice p n c) (.slice none 0 0) from rfl, h 9999]
theorem empty_row (w : World) : (w.alloc (.cells #[] 101)).ownsRow 0 101 65 (.slice (some ⟨w.heap.size, 0, none⟩) 0 0) 0 [] :=
  ⟨rfl, .inr ⟨w.heap.size, 0, #[], rfl, Nat.zero_le _, heap_alloc_new w _, Nat.le_refl _, Nat.zero_le _, rfl, rfl⟩⟩
theorem looseCells_one (l : List (Nat × List UInt8)) : ∀ u ∈ looseCells l, u.oneCell' = true := by
  intro u hu
  unfold looseCells at hu
  obtain ⟨p, _, h⟩ := List.mem_flatMap.1 hu
  rcases List.mem_cons.1 h with rfl | h
  · rfl
  · exact u8cells_one _ u h

set_option maxRecDepth 100000 in
set_option maxHeartbeats 2000000 in
theorem sclone_any (w : World) (lv : Value) (L : List (Nat × List UInt8)) (h : w.ownsRow 0 101 65 lv L.length (looseCells L)) (hlen : L.length ≤ 1000000000) :
    Calls Try.prog 74 #[lv] w fun e w' => ∃ lv', e = .returned lv' ∧ w'.ownsRow 0 101 65 lv' L.length (looseCells L) ∧ Below w.heap.size w w' ∧ ∀ g, lv'.ownBlock = some g → w.heap.size ≤ g := by
  rcases h.2 with ⟨rfl, h2⟩ | ⟨g, cap, cur, rfl, _, hg, hn, _, hcs, htake⟩
  · have h' := h
    have hq := fun w => eql_slice w none 0 0
    go_enter Try.func74, Try.ntmps74
    clear h h2
    go_wp2_with fail
    go_ret
    exact ⟨_, rfl, h', Below.refl _ _, fun g e => by simp [Value.ownBlock] at e⟩
  · have h' := h
    have hcells := h.cells (g := g) rfl
    have hl := h.1
    clear h
    obtain ⟨i0, hi0, hz0, hz1, hz2⟩ := info_parts put_info3
    have H := Lib.hid h'
    clear h' hg hn hcs htake
    have hsz := World.size_alloc w (.cells #[] 101)
    have hq := fun w => eql_slice w (some ⟨g, 0, none⟩) L.length cap
    have hg1 : g < w.heap.size := ownsRow_lt H.out rfl
    go_enter Try.func74, Try.ntmps74
    go_wp2_with (at_builtin; refine wpList_append_own_at _ rfl _ _ _ rfl 0 101 i0 _ 65 72 Try.underlying94 hi0 hz0 hz1 hz2 rfl (by omega) _ 0 [] rfl (empty_row w) ⟨g, 0, none⟩ L.length cap (looseCells L) rfl hl (fun j u hj => (((Below.refl w.heap.size w).alloc (Nat.le_refl _) _).cell (block_lt_of_cell (hcells j u hj))).trans (hcells j u hj)) (looseCells_one L) (by unfold maxLen; omega) (by omega) (Nat.zero_le _) ?_; intro v' w1 hown hgrow _ hat)
    go_ret
    refine ⟨v', rfl, by rw [Nat.zero_add, List.nil_append] at hown; exact hown, ((Below.refl w.heap.size w).alloc (Nat.le_refl _) _).grown hgrow (by omega) (fun k e => by have e' : some w.heap.size = some k := e; have := Option.some.inj e'; omega), fun k hk => ?_⟩
    rcases hat with hat | hat
    · rw [hat] at hk
      have e' : some w.heap.size = some k := hk
      have := Option.some.inj e'
      omega
    · rw [hat] at hk
      have := Option.some.inj hk
      omega

theorem slice_of {w : World} {base e s : Nat} {v : Value} {n : Nat} {xs : List Value} (h : w.ownsRow base e s v n xs) : ∃ q cap, v = .slice q n cap := by
  rcases h.2 with ⟨e1, e2⟩ | ⟨g, cap, _, e1, _⟩
  · exact ⟨none, 0, by rw [e1, e2]⟩
  · exact ⟨_, cap, e1⟩
theorem copy_nil (w : World) : Calls Try.prog 36 #[.pointer none] w fun e w' => e = .returned (.pointer none) ∧ w = w' := by
  go_enter Try.func36, Try.ntmps36
  go_wp2_with fail
  go_ret
  exact ⟨rfl, rfl⟩

set_option maxRecDepth 100000 in
set_option maxHeartbeats 2000000 in
theorem copy_any {w : World} {b : Nat} {D : Dsk} {fp : Nat → Prop} (h : DiskAt w b D fp) (hlen : D.loose.length ≤ 1000000000) :
    Calls Try.prog 36 #[.pointer (some ⟨b, 0, none⟩)] w fun e w' => ∃ b' fp', e = .returned (.pointer (some ⟨b', 0, none⟩)) ∧ DiskAt w' b' D fp' ∧ Below w.heap.size w w' ∧ ∀ k, fp' k → w.heap.size ≤ k := by
  obtain ⟨m, lv, hI, rfl⟩ := h
  have HI := Lib.hid hI
  obtain ⟨c0, c1, c2, c3, c4, _⟩ := hI.cells
  obtain ⟨es, clock, hm, hcl⟩ := hI.base.cloned
  have HM := Lib.hid hm
  have HCL := Lib.hid hcl
  have hb := (Array.getElem?_eq_some_iff.1 hI.struct).1
  clear hI hm hcl
  go_enter Try.func36, Try.ntmps36
  go_wp2_with fail
  go_region_held3 (fun w' => w'.cell? ⟨b, 0, none⟩ = some (.int .i64 (D.n : Int)) ∧ w'.cell? ⟨b, 1, none⟩ = some (.map (some m)) ∧ w'.cell? ⟨b, 2, none⟩ = some lv ∧ w'.cell? ⟨b, 3, none⟩ = some (.int .i64 D.left) ∧ w'.cell? ⟨b, 4, none⟩ = some (.bool D.down))
    (first | go_keep | exact ⟨(hB2.cell (p := ⟨b, 0, none⟩) hb).trans c0, (hB2.cell (p := ⟨b, 1, none⟩) hb).trans c1, (hB2.cell (p := ⟨b, 2, none⟩) hb).trans c2, (hB2.cell (p := ⟨b, 3, none⟩) hb).trans c3, (hB2.cell (p := ⟨b, 4, none⟩) hb).trans c4⟩)
    (first
      | (go_at_call 73; refine (mclone_any _ m es clock ?_).mono ?_; (exact HM.out); rintro e w1 ⟨rfl, rfl⟩)
      | (go_at_call 74; refine (sclone_any _ lv D.loose ?_ hlen).mono ?_; (exact (HI.out.loose.alloc _).drew); rintro e w2 ⟨lv', rfl, hrow2, hb2, hnew2⟩; have hB2 : Below w.heap.size w w2 := (((Below.refl w.heap.size w).alloc (Nat.le_refl _) _).drew).trans (hb2.mono (by rw [World.size_drew, World.size_alloc]; omega)); obtain ⟨q2, cap2, rfl⟩ := slice_of hrow2))
  have hs1 : ((w.alloc (.map es clock)).drew).heap.size = w.heap.size + 1 := by rw [World.size_drew, World.size_alloc]
  have HS := Lib.hid hs1
  have HR := Lib.hid hrow2
  have HB := Lib.hid hB2
  have HB2 := Lib.hid hb2
  have HN := Lib.hid hnew2
  clear hs1 hrow2 hB2 hb2 hnew2 c0 c1 c2 c3 c4
  go_wp2_with fail
  go_ret
  have hsz : w.heap.size + 1 ≤ w2.heap.size := by have := HB2.out.size; rw [HS.out] at this; exact this
  refine ⟨w2.heap.size, _, rfl, ⟨w.heap.size, .slice q2 D.loose.length cap2, ⟨heap_alloc_new w2 _, HCL.out.kept ?_, HR.out.alloc _, by omega, fun e => ?_, fun e => ?_, HI.out.fine⟩, rfl⟩, HB.out.alloc (by omega) _, ?_⟩
  · have e1 := ((Below.refl w2.heap.size w2).alloc (Nat.le_refl _) (.cells #[.int .i64 (D.n : Int), .map (some w.heap.size), .slice q2 D.loose.length cap2, .int .i64 D.left, .bool D.down] 96)).block w.heap.size (by omega)
    exact e1.trans (HB2.out.block w.heap.size (by rw [HS.out]; omega))
  · have := ownsRow_lt HR.out e; omega
  · have := HN.out _ e; rw [HS.out] at this; omega
  · rintro k (rfl | rfl | hk)
    · omega
    · exact Nat.le_refl _
    · have := HN.out _ hk; rw [HS.out] at this; omega
end Go.Proofs.Ythbdflmckfgleaa
