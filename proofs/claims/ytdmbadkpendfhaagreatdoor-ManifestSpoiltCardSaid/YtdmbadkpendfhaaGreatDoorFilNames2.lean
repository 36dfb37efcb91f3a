/- The shelf's contracts, laid in plain words (lay-plain.mjs, gen/lay_shelf.py). maslin/files: sorted, its iterator: all files come, by their names; walked. maslin/files: Names, walked. maslin/files: bytes, walked. -/
import Derived.Test.YtdmbadkpendfhaaGreatDoorBase
import Derived.Shelf.SlIter.Nil
import Derived.Shelf.SortM.Plain
import Derived.Shelf.SortM.SortNone
import Derived.Ground.GgzProg
import Derived.Ground.SlgmProg
import Derived.Test.YtdmbadkpendfhaaGreatDoorFilRep2
import Derived.RangeFuncNested
import Derived.RangeFuncBound
import Derived.RangeFuncCalls
import Derived.RangeFuncLeaves
import Derived.RangeFuncBox
import Derived.Shelf.Abstract
import Derived.Shelf.RegionOpen
import Derived.WalkKit
import Derived.OwnWalkIn
import Derived.TacticsInMore
import Derived.LoopNIn
import Derived.LoopIn
import Derived.Maps.AppendAt
import Derived.Maps.OwnIn
import Derived.Test.YtdmbadkpendfhaaGreatDoorWalOpen2
namespace Go.Proofs.YtdmbadkpendfhaaGreatDoor
open Go.RowKit Go.Maps Go.Sort Go.Shelf

def fkeys_ren : Go.Shelf.Ren := ⟨fun | 7 => 95 | 10 => 146 | n => n, fun | 23 => 92 | 26 => 9 | 3 => 97 | 28 => 159 | 0 => 0 | 27 => 158 | 33 => 209 | 4 => 4 | n => n, fun | n => n⟩
theorem fkeys : Go.Proofs.SlLaysZ.n7 Tryz.prog fkeys_ren := {
  mixed := by kernel_rfl
  f7 := ⟨Tryz.f95.name, by decide, Tryz.func95.trans (congrArg some (by kernel_rfl))⟩
  f10 := ⟨Tryz.f146.name, by decide, Tryz.func146.trans (congrArg some (by kernel_rfl))⟩
  t0 := Tryz.underlying0
  a0 := Tryz.isAgg0
  z0 := Tryz.sizeOf0
  v0 := Tryz.zeroValue0
  t4 := Tryz.underlying4
  a4 := Tryz.isAgg4
  z4 := Tryz.sizeOf4
  v4 := Tryz.zeroValue4
  t23 := Tryz.underlying92
  a23 := Tryz.isAgg92
  z23 := Tryz.sizeOf92
  v23 := Tryz.zeroValue92
  t26 := Tryz.underlying9
  a26 := Tryz.isAgg9
  z26 := Tryz.sizeOf9
  v26 := Tryz.zeroValue9
  t27 := Tryz.underlying158
  a27 := Tryz.isAgg158
  z27 := Tryz.sizeOf158
  v27 := Tryz.zeroValue158
  t28 := Tryz.underlying159
  a28 := Tryz.isAgg159
  z28 := Tryz.sizeOf159
  v28 := Tryz.zeroValue159
  t33 := Tryz.underlying209
  a33 := Tryz.isAgg209
  z33 := Tryz.sizeOf209
  v33 := Tryz.zeroValue209 }
def fsortd_ren : Go.Shelf.Ren := ⟨fun | 6 => 94 | 8 => 145 | 9 => 81 | 11 => 178 | 13 => 138 | 12 => 137 | 23 => 170 | 24 => 171 | 14 => 161 | 15 => 162 | 16 => 163 | 17 => 164 | 18 => 165 | 19 => 166 | 20 => 167 | 21 => 168 | 22 => 169 | 25 => 183 | 26 => 184 | 27 => 185 | 28 => 186 | 29 => 187 | 30 => 188 | 31 => 195 | n => n, fun | 26 => 9 | 28 => 159 | 24 => 23 | 0 => 0 | 3 => 3 | 37 => 201 | 48 => 148 | 50 => 22 | 4 => 4 | 40 => 225 | 39 => 224 | 45 => 229 | 5 => 5 | 9 => 9 | 51 => 244 | 55 => 247 | 57 => 254 | 58 => 255 | 33 => 209 | n => n, fun | n => n⟩
theorem fsortd : Go.Proofs.SlLaysZ.n6 Tryz.prog fsortd_ren := {
  mixed := by kernel_rfl
  f6 := ⟨Tryz.f94.name, by decide, Tryz.func94.trans (congrArg some (by kernel_rfl))⟩
  f8 := ⟨Tryz.f145.name, by decide, Tryz.func145.trans (congrArg some (by kernel_rfl))⟩
  f11 := ⟨Tryz.f178.name, by decide, Tryz.func178.trans (congrArg some (by kernel_rfl))⟩
  t0 := Tryz.underlying0
  a0 := Tryz.isAgg0
  z0 := Tryz.sizeOf0
  v0 := Tryz.zeroValue0
  t24 := Tryz.underlying23
  a24 := Tryz.isAgg23
  z24 := Tryz.sizeOf23
  v24 := Tryz.zeroValue23
  t26 := Tryz.underlying9
  a26 := Tryz.isAgg9
  z26 := Tryz.sizeOf9
  v26 := Tryz.zeroValue9
  t28 := Tryz.underlying159
  a28 := Tryz.isAgg159
  z28 := Tryz.sizeOf159
  v28 := Tryz.zeroValue159
  i26 := by kernel_rfl }
def fsort_ren : Go.Shelf.Ren := ⟨fun | 6 => 81 | 8 => 138 | 9 => 137 | 19 => 170 | 20 => 171 | 21 => 161 | 22 => 162 | 23 => 163 | 24 => 164 | 25 => 165 | 26 => 166 | 27 => 167 | 28 => 168 | 29 => 169 | 36 => 183 | 31 => 184 | 32 => 185 | 37 => 186 | 38 => 187 | 39 => 188 | 41 => 195 | n => n, fun | 27 => 23 | 29 => 9 | 3 => 3 | 32 => 201 | 26 => 23 | 0 => 0 | 44 => 148 | 46 => 22 | 4 => 4 | 36 => 225 | 35 => 224 | 41 => 229 | 5 => 5 | 9 => 9 | 53 => 244 | 57 => 247 | 63 => 254 | 64 => 255 | n => n, fun | n => n⟩
theorem fsort : Go.Proofs.SlLaysM.n6 Tryz.prog fsort_ren := {
  mixed := by kernel_rfl
  f6 := ⟨Tryz.f81.name, by decide, Tryz.func81.trans (congrArg some (by kernel_rfl))⟩
  f8 := Tryz.func138.trans (congrArg some (by kernel_rfl))
  f9 := ⟨Tryz.f137.name, by decide, Tryz.func137.trans (congrArg some (by kernel_rfl))⟩
  f19 := Tryz.func170.trans (congrArg some (by kernel_rfl))
  f20 := Tryz.func171.trans (congrArg some (by kernel_rfl))
  f21 := ⟨Tryz.f161.name, by decide, Tryz.func161.trans (congrArg some (by kernel_rfl))⟩
  f22 := ⟨Tryz.f162.name, by decide, Tryz.func162.trans (congrArg some (by kernel_rfl))⟩
  f23 := ⟨Tryz.f163.name, by decide, Tryz.func163.trans (congrArg some (by kernel_rfl))⟩
  f24 := ⟨Tryz.f164.name, by decide, Tryz.func164.trans (congrArg some (by kernel_rfl))⟩
  f25 := ⟨Tryz.f165.name, by decide, Tryz.func165.trans (congrArg some (by kernel_rfl))⟩
  f26 := ⟨Tryz.f166.name, by decide, Tryz.func166.trans (congrArg some (by kernel_rfl))⟩
  f27 := ⟨Tryz.f167.name, by decide, Tryz.func167.trans (congrArg some (by kernel_rfl))⟩
  f28 := ⟨Tryz.f168.name, by decide, Tryz.func168.trans (congrArg some (by kernel_rfl))⟩
  f29 := ⟨Tryz.f169.name, by decide, Tryz.func169.trans (congrArg some (by kernel_rfl))⟩
  f31 := Tryz.func184.trans (congrArg some (by kernel_rfl))
  f32 := Tryz.func185.trans (congrArg some (by kernel_rfl))
  f36 := ⟨Tryz.f183.name, by decide, Tryz.func183.trans (congrArg some (by kernel_rfl))⟩
  f37 := ⟨Tryz.f186.name, by decide, Tryz.func186.trans (congrArg some (by kernel_rfl))⟩
  f38 := ⟨Tryz.f187.name, by decide, Tryz.func187.trans (congrArg some (by kernel_rfl))⟩
  f39 := ⟨Tryz.f188.name, by decide, Tryz.func188.trans (congrArg some (by kernel_rfl))⟩
  f41 := ⟨Tryz.f195.name, by decide, Tryz.func195.trans (congrArg some (by kernel_rfl))⟩
  t0 := Tryz.underlying0
  a0 := Tryz.isAgg0
  z0 := Tryz.sizeOf0
  v0 := Tryz.zeroValue0
  t3 := Tryz.underlying3
  a3 := Tryz.isAgg3
  z3 := Tryz.sizeOf3
  v3 := Tryz.zeroValue3
  t4 := Tryz.underlying4
  a4 := Tryz.isAgg4
  z4 := Tryz.sizeOf4
  v4 := Tryz.zeroValue4
  t5 := Tryz.underlying5
  a5 := Tryz.isAgg5
  z5 := Tryz.sizeOf5
  v5 := Tryz.zeroValue5
  t9 := Tryz.underlying9
  a9 := Tryz.isAgg9
  z9 := Tryz.sizeOf9
  v9 := Tryz.zeroValue9
  t26 := Tryz.underlying23
  a26 := Tryz.isAgg23
  z26 := Tryz.sizeOf23
  v26 := Tryz.zeroValue23
  t27 := Tryz.underlying23
  a27 := Tryz.isAgg23
  z27 := Tryz.sizeOf23
  v27 := Tryz.zeroValue23
  t29 := Tryz.underlying9
  a29 := Tryz.isAgg9
  z29 := Tryz.sizeOf9
  v29 := Tryz.zeroValue9
  t32 := Tryz.underlying201
  a32 := Tryz.isAgg201
  z32 := Tryz.sizeOf201
  v32 := Tryz.zeroValue201
  t35 := Tryz.underlying224
  a35 := Tryz.isAgg224
  z35 := Tryz.sizeOf224
  v35 := Tryz.zeroValue224
  t36 := Tryz.underlying225
  a36 := Tryz.isAgg225
  z36 := Tryz.sizeOf225
  v36 := Tryz.zeroValue225
  t41 := Tryz.underlying229
  a41 := Tryz.isAgg229
  z41 := Tryz.sizeOf229
  v41 := Tryz.zeroValue229
  t44 := Tryz.underlying148
  a44 := Tryz.isAgg148
  z44 := Tryz.sizeOf148
  v44 := Tryz.zeroValue148
  t46 := Tryz.underlying22
  a46 := Tryz.isAgg22
  z46 := Tryz.sizeOf22
  v46 := Tryz.zeroValue22
  t53 := Tryz.underlying244
  a53 := Tryz.isAgg244
  z53 := Tryz.sizeOf244
  v53 := Tryz.zeroValue244
  t57 := Tryz.underlying247
  a57 := Tryz.isAgg247
  z57 := Tryz.sizeOf247
  v57 := Tryz.zeroValue247
  t63 := Tryz.underlying254
  a63 := Tryz.isAgg254
  z63 := Tryz.sizeOf254
  v63 := Tryz.zeroValue254
  t64 := Tryz.underlying255
  a64 := Tryz.isAgg255
  z64 := Tryz.sizeOf255
  v64 := Tryz.zeroValue255 }
end Go.Proofs.YtdmbadkpendfhaaGreatDoor

namespace Go.Proofs.YtdmbadkpendfhaaGreatDoor
open Go.RowKit Go.Maps Go.Sort Go.Shelf
open Fil
attribute [local go_sem] Oper.semAt_some

theorem fsortsS (m : Nat) : AnyZ.SortsIn Tryz.prog fsortd_ren Fence.wide m :=
  ⟨fun blk off cap ss W hH hblk hsz => callsIn_wide.2 (AnyM.slices_Sort_string fsort blk off cap ss W hH hblk hsz),
   fun p cap W => callsIn_wide.2 (AnyM.slices_Sort_string_none fsort p cap W)⟩
theorem fmapKeys (mb : Option Nat) (W : World) : Calls Tryz.prog 95 #[.map mb] W fun e w' => e = .returned (.func (.func 146) #[] #[.pointer (some ⟨W.heap.size, 0, none⟩)]) ∧ w' = W.alloc (.cells #[.map mb] 92) :=
  callsIn_wide.1 (AnyZ.keys_in fkeys Fence.wide 5 trivial rfl mb W)
theorem names_sorted {F : M} (h : Up F) {ss : List T} (hp : ss.Perm (F.map (·.1))) : ss.mergeSort (fun x y => decide (x ≤ y)) = F.map (·.1) := by
  have e : ss.mergeSort leB = (F.map (·.1)).mergeSort leB := mergeSort_of_perm hp
  have e2 : (F.map (·.1)).mergeSort leB = F.map (·.1) := by
    refine List.mergeSort_of_pairwise ?_
    refine List.pairwise_map.2 (h.imp fun {a b} hab => ?_)
    show decide (a.1 ≤ b.1) = true
    simpa using List.not_lt.1 (lt_asym hab)
  exact e.trans e2
set_option maxHeartbeats 1000000 in
theorem fsortedKeys {w : World} {m : Nat} {F : M} (h : FilMap w m F) (hlen : F.length ≤ 1000000) :
    Calls Tryz.prog 94 #[.func (.func 146) #[] #[.pointer (some ⟨w.heap.size, 0, none⟩)]] (w.alloc (.cells #[.map (some m)] 92)) fun e w' =>
      ∃ v, e = .returned v ∧ w'.ownsRow (w.heap.size + 1) 9 1 v F.length ((F.map (·.1)).map encStr) ∧ Below w.heap.size w w' := by
  obtain ⟨hu, kv, hperm, hmap⟩ := h
  obtain ⟨D, hown, hsz, hkp⟩ := hmap.keyed
  have hkl : kv.length = F.length := by rw [hperm.length_eq]; unfold filKv; rw [List.length_map]
  have hkeys : (kv.map (·.1)).Perm (F.map (·.1)) := by rw [← filKv_keys]; exact hperm.map _
  have hbl := hown.lt
  have hseq : SeqGives Fence.wide 2 Tryz.prog 146 #[.pointer (some ⟨w.heap.size, 0, none⟩)] encStr (fun ss => ss.Perm (strKeys D)) (Maps.size D) (w.alloc (.cells #[.map (some m)] 92)) :=
    AnyZ.keys_gives (ρ := fkeys_ren) { fkeys with } Fence.wide _ trivial rfl (by omega) w.heap.size m kv.length D _ (by simp) (by simp) (by
      obtain ⟨es, clock, hb, Ft, hs, hD⟩ := hown
      exact ⟨es, clock, (Below.heap_alloc _ _ m hbl).trans hb, Ft, hs, hD⟩)
  have cS := AnyZ.sorted_in fsortd Fence.wide 5 trivial trivial trivial trivial rfl (by omega) (fsortsS _) (enters_of Tryz.func81 (by kernel_rfl) rfl) 146 #[.pointer (some ⟨w.heap.size, 0, none⟩)] trivial (enters_of Tryz.func146 (by kernel_rfl) rfl) _ _ (by unfold maxLen; omega) (by omega) _ hseq
  refine (callsIn_wide.1 cS).mono ?_
  rintro e w' ⟨v, ss, rfl, hS, hrow, _, hb⟩
  have hss : ss.Perm (F.map (·.1)) := (hS.trans hkp.symm).trans hkeys
  have e1 : ss.length = F.length := by have := hss.length_eq; simpa using this
  rw [e1, names_sorted hu hss] at hrow
  exact ⟨v, rfl, by rw [World.size_alloc] at hrow; exact hrow, ((Below.refl _ w).alloc (Nat.le_refl _) _).trans (hb.mono (by rw [World.size_alloc]; omega))⟩

theorem run_field_text (W : World) (s : List UInt8) : (Instr.field 97 (.agg #[.string (bs s)]) 0).run Tryz.prog W = .ok (.string (bs s)) W := by
  simp [Instr.field, run_underlying Tryz.underlying97, go_sem, asAgg, Result.andThen]
/-! ### What the rounds may turn -/
def NoCells (W : World) (k : Nat) : Prop := ∃ o, W.heap[k]? = some o ∧ o.isCells = false
/-- The blocks of Q, and new ones that are no cells. -/
def May (Q : World → Nat → Prop) (n₀ : Nat) (W : World) (k : Nat) : Prop := Q W k ∨ (n₀ ≤ k ∧ NoCells W k)
structure Turns (Q : World → Nat → Prop) (n₀ : Nat) (W W' : World) : Prop where
  upd : Upd (May Q n₀ W) W W'
  stay : ∀ k, Q W' k → May Q n₀ W k ∨ W.heap.size ≤ k
theorem May.back {Q : World → Nat → Prop} {n₀ : Nat} {A B : World} (h : Turns Q n₀ A B) {k : Nat} (hk : May Q n₀ B k) : May Q n₀ A k ∨ A.heap.size ≤ k := by
  rcases hk with hk | ⟨h1, o, h2, h3⟩
  · exact h.stay k hk
  · by_cases hlt : k < A.heap.size
    · by_cases hm : May Q n₀ A k
      · exact .inl hm
      · exact .inl (.inr ⟨h1, o, (h.upd.block k hlt hm).symm.trans h2, h3⟩)
    · exact .inr (by omega)
theorem Turns.trans {Q : World → Nat → Prop} {n₀ : Nat} {A B C : World} (h : Turns Q n₀ A B) (k : Turns Q n₀ B C) : Turns Q n₀ A C :=
  ⟨h.upd.trans k.upd (fun _ hi => May.back h hi), fun i hi => by
    rcases k.stay i hi with hi | hi
    · exact May.back h hi
    · exact .inr (Nat.le_trans h.upd.size hi)⟩
theorem Turns.putObj {Q : World → Nat → Prop} {n₀ : Nat} {W : World} {l : Nat} {o o' : Obj} (hl : n₀ ≤ l) (ho : W.heap[l]? = some o) (hc : o.isCells = false) (hQ : ∀ k, Q (W.putObj l o') k → May Q n₀ W k ∨ W.heap.size ≤ k) : Turns Q n₀ W (W.putObj l o') :=
  ⟨Upd.of_grownBy (grownBy_putObj' W l o') (fun k e => by cases e; exact .inr ⟨hl, o, ho, hc⟩), hQ⟩
/-- Where what may turn is known by the elements' type. -/
theorem Turns.of_kind {Q : World → Nat → Prop} {n₀ : Nat} {W W' : World} (h : Upd (May Q n₀ W) W W') (hQ : ∀ k, k < W.heap.size → W'.heap[k]? = W.heap[k]? → Q W' k → Q W k) : Turns Q n₀ W W' :=
  ⟨h, fun k hk => by
    by_cases hlt : k < W.heap.size
    · by_cases hm : May Q n₀ W k
      · exact .inl hm
      · exact .inl (.inl (hQ k hlt (h.block k hlt hm) hk))
    · exact .inr (by omega)⟩

/-- A file, as it may be. -/
abbrev Ent := { p : T × T // mayB p.1 p.2 = true }
def encE (x : Ent) : Array Value := #[.string (bs x.1.1), .string (bs x.1.2)]
theorem ents_of : ∀ (F : M), Fil.Good F → ∃ L : List Ent, L.map (·.1) = F
  | [], _ => ⟨[], rfl⟩
  | p :: F, h => by
    obtain ⟨L, hL⟩ := ents_of F (fun q hq => h q (List.mem_cons_of_mem _ hq))
    exact ⟨⟨p, h p List.mem_cons_self⟩ :: L, by rw [List.map_cons, hL]⟩

set_option maxRecDepth 100000 in
set_option maxHeartbeats 1000000 in
/-- 'sorted(m)': the map is boxed; the function value captures the box. -/
theorem fsorted_any (mb : Option Nat) (w : World) :
    Calls Tryz.prog 41 #[.map mb] w fun e w' => e = .returned (.func (.func 93) #[] #[.pointer (some ⟨w.heap.size, 0, none⟩)]) ∧ w' = w.alloc (.cells #[.map mb] 92) := by
  go_enter Tryz.func41, Tryz.ntmps41
  go_wp2_with fail
  go_ret
  exact ⟨rfl, rfl⟩

set_option maxRecDepth 100000 in
set_option maxHeartbeats 2000000 in
/-- What it hands back gives all files, by their names. -/
theorem fsorted_stops (n : Nat) (hn : 1 ≤ n) (Q : World → Nat → Prop) (n₀ Bx m : Nat) (F : M) (L : List Ent) (hL : L.map (·.1) = F) (w : World) (hc : w.cell? ⟨Bx, 0, none⟩ = some (.map (some m))) (hM : FilMap w m F) (hlen : F.length ≤ 1000000) (hn₀ : w.heap.size ≤ n₀) (hQ1 : ∀ W k, Q W k → k ≠ m ∧ k ≠ Bx)
    (hQ2 : ∀ W W' g, Below w.heap.size w W → Below W.heap.size W W' → W.heap.size ≤ g → BlkOf W' g 9 → ¬ Q W' g) :
    SeqStopsK Fence.wide n Tryz.prog 93 #[.pointer (some ⟨Bx, 0, none⟩)] encE (Turns Q n₀) (fun ys => ys = L) (fun _ => True) L.length w := fun l J Jx W hW hJ _ hY h0 => by
  have hBx := block_lt_of_cell hc
  have hmlt := hM.lt
  have hc' := (hW.cell (p := ⟨Bx, 0, none⟩) hBx).trans hc
  have hM' := hM.below hW
  have hsz := hW.size
  have hll : L.length = F.length := by rw [← hL, List.length_map]
  have hb1 : Below W.heap.size W (W.alloc (.cells #[.map (some m)] 92)) := (Below.refl _ _).alloc (Nat.le_refl _) _
  have HS := Lib.hid (fsortedKeys hM' hlen)
  have HM := Lib.hid hM'; have HL := Lib.hid hL; have HLL := Lib.hid hll; have HLEN := Lib.hid hlen; have HC := Lib.hid hc'
  have HQ1 := Lib.hid hQ1; have HQ2 := Lib.hid (fun W' g => hQ2 W W' g hW)
  clear hc hM hM' hW hlen hQ1 hQ2 hll hL
  refine callsIn_of_wp Tryz.func93 rfl trivial ?_ rfl
  simp only [Tryz.ntmps93, List.size_toArray, List.length_cons, List.length_nil, Nat.reduceAdd, Nat.reduceSub, Array.replicate_succ, Array.replicate_zero, List.push_toArray, List.append_toArray, List.nil_append, List.cons_append]
  have hfK : Fence.wide.fn 95 := trivial
  have hfS : Fence.wide.fn 94 := trivial
  gi_wp2_with (first
    | (gi_at_call 95; refine (callsIn_wide.2 (fmapKeys _ _)).mono ?_; rintro e w' ⟨rfl, rfl⟩)
    | (gi_at_call 94; refine (callsIn_wide.2 HS.out).mono ?_; rintro e W1 ⟨v, rfl, hrow, hbW⟩; obtain ⟨q, cap, rfl⟩ := slice_len hrow))
  have hJ1 : J [] W1 := hJ _ _ _ none h0 ⟨hbW.os, hbW.tape, hbW.output, hbW.size, fun k hk _ => hbW.block k hk⟩ (fun r e => by cases e)
  have HROW := Lib.hid hrow; have HBW := Lib.hid hbW
  clear hrow hbW h0
  gi_loopw [9] (fun i wr => ∃ k : Nat, k ≤ F.length ∧ i = .int .i64 k ∧ J (L.take k) wr ∧ Turns Q n₀ W1 wr)
    (fun i _ => F.length - (intOf i).toNat)
  case atStart => exact ⟨0, Nat.zero_le _, rfl, by rw [List.take_zero]; exact hJ1, ⟨Upd.refl _ _, fun k hk => .inl (.inl hk)⟩⟩
  case round =>
    obtain ⟨k, hk, rfl, hJs, hnx⟩ := hrel
    by_cases hlt : k < F.length
    · have hkL : k < L.length := by rw [HLL.out]; exact hlt
      obtain ⟨g, rfl⟩ : ∃ g, q = some ⟨g, 0, none⟩ := by
        rcases HROW.out.2 with ⟨e1, e2⟩ | ⟨g, cap, _, e1, _⟩
        · omega
        · exact ⟨g, by injection e1⟩
      have hgo := ownsRow_blk HROW.out (g := g) rfl
      have hgW : W.heap.size + 1 ≤ g := by
        rcases HROW.out.2 with ⟨e1, _⟩ | ⟨g', cap', _, e1, hb, _⟩
        · injection e1 with e1; cases e1
        · injection e1 with e1; cases e1; exact hb
      have hnq : ¬ Q W1 g := HQ2.out W1 g HBW.out (by omega) hgo
      have hnm : ¬ May Q n₀ W1 g := by
        rintro (h | ⟨_, o, h1, h2⟩)
        · exact hnq h
        · obtain ⟨cs, fr, h3⟩ := hgo
          rw [h1] at h3
          cases h3
          cases h2
      have hltr : ∀ i, i < F.length → wr.cell? ⟨g, i, none⟩ = W1.cell? ⟨g, i, none⟩ := fun i hi => World.cell?_of_block (hnx.upd.block g hgo.lt hnm)
      have hsz1 := HBW.out.size
      have hxF : F[k] = L[k].1 := by
        have e : (L.map (·.1))[k]? = F[k]? := by rw [HL.out]
        rw [List.getElem?_map, List.getElem?_eq_getElem hkL, List.getElem?_eq_getElem hlt] at e
        simpa using e.symm
      have hkey : wr.cell? ⟨g, k, none⟩ = some (.string (bs L[k].1.1)) := by
        rw [hltr k hlt]
        have := HROW.out.cells (g := g) rfl k (encStr F[k].1) (by rw [List.getElem?_map, List.getElem?_map, List.getElem?_eq_getElem hlt]; rfl)
        rw [add_plain, hxF] at this
        exact this
      have hbox : wr.cell? ⟨Bx, 0, none⟩ = some (.map (some m)) := by
        refine (World.cell?_of_block (hnx.upd.block Bx (by omega) ?_)).trans ((HBW.out.cell (p := ⟨Bx, 0, none⟩) (by show Bx < W.heap.size; omega)).trans HC.out)
        rintro (h | ⟨h1, _⟩)
        · exact (HQ1.out _ _ h).2 rfl
        · omega
      have hmr : FilMap wr m F := by
        refine (HM.out.below HBW.out).upd hnx.upd ?_
        rintro (h | ⟨h1, _⟩)
        · exact (HQ1.out _ _ h).1 rfl
        · omega
      have hxm : (L[k].1.1, L[k].1.2) ∈ F := by
        rw [← hxF]
        exact List.getElem_mem hlt
      have hgx := get_mem hmr.1 hxm
      have hxmay := L[k].2
      have hxb : L[k].1.1.length ≤ 32 ∧ L[k].1.2.length ≤ 65535 := by unfold mayB at hxmay; simp at hxmay; exact ⟨hxmay.2.1, hxmay.2.2⟩
      have hlk := hmr.lookup L[k].1.1 (by unfold maxLen; omega)
      rw [hgx, Option.getD_some] at hlk
      have hidx := run_index_slice Tryz.prog 23 9 Tryz.underlying23 1 (by kernel_rfl) ⟨g, 0, none⟩ F.length cap k hlt
      rw [add_plain, Nat.mul_one] at hidx
      have HTK := Lib.hid (show L.take (k + 1) = L.take k ++ [L[k]] by rw [List.take_add_one, List.getElem?_eq_getElem hkL]; rfl)
      obtain ⟨fn, tmps, assign, body, hy, hR⟩ := hY _ L[k] wr hJs (by rw [List.length_take]; omega)
      unfold encE at hy
      have HNX := Lib.hid hnx
      clear hgo hgW hnq hnm hltr hxF hmr hxm hgx hxmay hxb hnx hJs hsz1
      generalize L[k] = x at *
      clear hkL
      obtain ⟨⟨xn, xd⟩, hxx⟩ := x
      simp only at hkey hlk hy
      have hfd := fun W => run_field_text W xd
      have hFL := HLEN.out
      gi_wp2
      refine hR.mono ?_
      rintro e W3 (⟨rfl, hJ3, hk3⟩ | ⟨rfl, hJx3⟩)
      · gi_wp2
        go_roundw
        case rel => exact ⟨k + 1, by omega, by simp, by rw [HTK.out]; exact hJ3, HNX.out.trans hk3⟩
        case measure => simp [intOf]; omega
      · gi_wp2
        refine bodyPost_ret (results_none rfl _ _ _) rfl ?_
        exact ⟨⟨_, rfl⟩, .inr ⟨_, trivial, hJx3⟩⟩
    · obtain rfl : k = F.length := by omega
      gi_wp2
      go_end0
      exact ⟨⟨_, rfl⟩, .inl ⟨_, rfl, by rw [← HLL.out, List.take_length] at hJs; exact hJs⟩⟩
end Go.Proofs.YtdmbadkpendfhaaGreatDoor

namespace Go.Proofs.YtdmbadkpendfhaaGreatDoor
open Go.RowKit Go.Maps Go.Sort Go.Shelf
open Fil
attribute [local go_sem] Oper.semAt_some

/-- A result that lies in a cell. -/
theorem strs_out {fn : Func} {q : Tmp} (h : fn.results = #[.cell q 23]) (tmps : Array Value) (w : World) (g : Nat) (p : Option Addr) (n c : Nat) (hq : tmps.getD q undef = .pointer (some ⟨g, 0, none⟩)) (hc : w.cell? ⟨g, 0, none⟩ = some (.slice p n c)) :
    (results fn tmps).run Tryz.prog w = .ok (.slice p n c) w := by
  have hq' : tmps[q]?.getD undef = .pointer (some ⟨g, 0, none⟩) := by simpa using hq
  simp only [results, h]
  simp [hq', asAddr]
  go_simp
/-- What a round of Names may turn: the result's cell, and the row that it leads to. -/
def NamesQ (B m : Nat) (W : World) (k : Nat) : Prop := k = B ∨ (k ≠ m ∧ k ≠ B + 1 ∧ ∃ v, W.cell? ⟨B, 0, none⟩ = some v ∧ v.ownBlock = some k)
theorem namesQ_ne {B m : Nat} (hm : m < B) (W : World) (k : Nat) (h : NamesQ B m W k) : k ≠ m ∧ k ≠ B + 1 := by
  rcases h with rfl | ⟨h1, h2, _⟩
  · omega
  · exact ⟨h1, h2⟩
theorem BlkOf.noCells {W : World} {k : Nat} {t : TypeId} (h : BlkOf W k t) : ¬ NoCells W k := by
  obtain ⟨cs, fr, h⟩ := h
  rintro ⟨o, h1, h2⟩
  rw [h] at h1
  cases h1
  cases h2
theorem upd_noCells {A B : World} {row : Option Nat} {n : Nat} (hg : A.grownBy B row) (hr : ∀ r, row = some r → n ≤ r ∧ ∃ o : Obj, A.heap[r]? = some o ∧ o.isCells = false) : Upd (fun k => n ≤ k ∧ NoCells A k) A B :=
  Upd.of_grownBy hg (fun k e => hr k e)
theorem box_blk {W : World} {B : Nat} {t : TypeId} {v : Value} (h : Boxed W B t v) : BlkOf W B t := ⟨_, _, h⟩
theorem box_upd {F : Nat → Prop} {W W' : World} {B : Nat} {t : TypeId} {v : Value} (h : Boxed W B t v) (hu : Upd F W W') (hF : ¬ F B) : Boxed W' B t v := (hu.block B h.lt hF).trans h

set_option maxRecDepth 100000 in
set_option maxHeartbeats 2000000 in
theorem fnames_any {w : World} {y b m x : Nat} {gv : Value} {F : St} (h : FilIn w y b m x gv F) (hg : Fil.Good F.m) (hlen : F.m.length ≤ 1000000) :
    Calls Tryz.prog 15 #[.pointer (some ⟨y, 0, none⟩)] w fun e w' => ∃ v, e = .returned v ∧ w'.ownsRow 0 9 1 v F.m.length (strCells (F.m.map (·.1))) ∧ Below w.heap.size w w' ∧ ∀ k, v.ownBlock = some k → w.heap.size ≤ k := by
  have hy : y < w.heap.size := blk_lt h.struct
  have hmlt := h.map.lt
  obtain ⟨_, _, _, _, c4, _⟩ := h.cells
  have HM := Lib.hid h.map; have HG := Lib.hid hg; have HLEN := Lib.hid hlen
  clear h hg hlen
  refine (callsIn_wide (n := 6)).1 ?_
  refine callsIn_of_wp_marks Tryz.func15 rfl trivial ?_ rfl
  simp only [Tryz.ntmps15, List.size_toArray, List.length_cons, List.length_nil, Nat.reduceAdd, Nat.reduceSub, Array.replicate_succ, Array.replicate_zero, List.push_toArray, List.append_toArray, List.nil_append, List.cons_append]
  have hfK : Fence.wide.fn 41 := trivial
  gi_wp2_with (gi_at_call 41; refine (callsIn_wide.2 (fsorted_any _ _)).mono ?_; rintro e w1 ⟨rfl, rfl⟩)
  have hB0 : Boxed ((w.alloc (.cells #[.slice none 0 0] 23)).alloc (.cells #[.map (some m)] 92)) w.heap.size 23 (.slice none 0 0) := (Boxed.new w 23 (.slice none 0 0)).alloc _
  have hX0 : Boxed ((w.alloc (.cells #[.slice none 0 0] 23)).alloc (.cells #[.map (some m)] 92)) (w.heap.size + 1) 92 (.map (some m)) := by
    have := Boxed.new (w.alloc (.cells #[.slice none 0 0] 23)) 92 (.map (some m))
    rwa [World.size_alloc] at this
  have hb0 : Below w.heap.size w ((w.alloc (.cells #[.slice none 0 0] 23)).alloc (.cells #[.map (some m)] 92)) := ((Below.refl _ _).alloc (Nat.le_refl _) _).alloc (by simp) _
  have hs0 : ((w.alloc (.cells #[.slice none 0 0] 23)).alloc (.cells #[.map (some m)] 92)).heap.size = w.heap.size + 2 := by rw [World.size_alloc, World.size_alloc]
  have hM0 := HM.out.below hb0
  obtain ⟨L, hL⟩ := ents_of F.m HG.out
  have hLL : L.length = F.m.length := by rw [← hL, List.length_map]
  generalize (w.alloc (.cells #[.slice none 0 0] 23)).alloc (.cells #[.map (some m)] 92) = W0 at *
  have hseq := fsorted_stops 5 (by omega) (NamesQ w.heap.size m) (w.heap.size + 2) (w.heap.size + 1) m F.m L hL W0 hX0.cell hM0 HLEN.out (by omega) (fun W k hk => namesQ_ne hmlt W k hk)
    (fun W W' g hW hW' hg hbl hq => by
      have h1 := hW.size
      rcases hq with rfl | ⟨_, _, v, hv, hvb⟩
      · omega
      · rw [hW'.cell (p := ⟨w.heap.size, 0, none⟩) (by show w.heap.size < _; omega), hW.cell (p := ⟨w.heap.size, 0, none⟩) (by show w.heap.size < _; omega), hB0.cell] at hv
        cases hv
        simp [Value.ownBlock] at hvb)
  obtain ⟨i0, hi0, hz0, hz1, hz2⟩ := info_parts str_info3
  have HSEQ := Lib.hid hseq
  clear hseq
  refine wpIn_rangeFunc_ownH (n := 6) rfl (by omega) (gf := 93) (lb := #[.pointer (some ⟨w.heap.size + 1, 0, none⟩)]) rfl trivial (enters_of Tryz.func93 (by kernel_rfl) rfl) HSEQ.out (fun h k => h.trans k)
    (fun W l o o' hl ho hc _ => Turns.putObj (by omega) ho hc (fun k hk => ?hputQ)) (Below.refl _ _) (fun _ => rfl)
    (fun pre W => (Boxed W (w.heap.size + 1) 92 (.map (some m)) ∧ ∃ v, Boxed W w.heap.size 23 v ∧ W.ownsRow w.heap.size 9 1 v pre.length (strCells (pre.map (·.1.1)))) ∧ Below w.heap.size w W)
    (fun _ _ _ => False)
    (fun s A B row hs hg hr => ?hown)
    (fun _ _ _ _ _ hs _ _ => hs)
    ⟨⟨hX0, _, hB0, by rw [List.map_nil, strCells_nil]; exact World.ownsRow_nil _ _ _ _⟩, hb0⟩
    (fun x a' _ => a' = { tmps := #[.pointer (some ⟨y, 0, none⟩), undef, .pointer (some ⟨w.heap.size, 0, none⟩), .string (bs x.1.1), .pointer (some ⟨y, 0, none⟩), .bool false, .pointer (some ⟨y, 0, none⟩), .pointer (some ⟨y, 0, none⟩), .pointer (some ⟨y, 4, none⟩), .map (some m), .func (.func 93) #[] #[.pointer (some ⟨w.heap.size + 1, 0, none⟩)], .string (bs x.1.1), .string (bs x.1.2), undef, undef, undef, undef, undef], defers := [] })
    (fun x a' _ X Y row hs hg hr => hs)
    ?assign ?body ?done ?stop
  case hputQ =>
    have hlt : l < W.heap.size := blk_lt ho
    rcases hk with rfl | ⟨h1, h2, v, h3, h4⟩
    · exact .inl (.inl (.inl rfl))
    · refine .inl (.inl (.inr ⟨h1, h2, v, ?_, h4⟩))
      rw [← h3]
      exact ((Upd.of_grownBy (F := fun k => k = l) (grownBy_putObj' W l o') (fun k e => by cases e; rfl)).cell (p := ⟨w.heap.size, 0, none⟩) (by show w.heap.size < _; omega) (by show ¬ w.heap.size = l; omega)).symm
  case hown =>
    have hu := upd_noCells hg hr
    obtain ⟨⟨g1, v, g2, g3⟩, g4⟩ := hs
    exact ⟨⟨box_upd g1 hu (fun h => (box_blk g1).noCells h.2), v, box_upd g2 hu (fun h => (box_blk g2).noCells h.2), ownsRow_upd g3 hu (fun g hg h => (ownsRow_blk g3 hg).noCells h.2)⟩, below_upd g4 hu (fun i hi => by omega) g4.size⟩
  case assign =>
    rintro l pre x W K hI hK
    unfold encE
    gi_wp2
    exact hK _ _ ((KeepsOthers.refl _).from _) ⟨Upd.refl _ _, fun k hk => .inl (.inl hk)⟩ hI rfl
  case body =>
    rintro l pre x a' W hl ⟨r, hr⟩ ⟨⟨g1, v, g2, g3⟩, g4⟩ rfl hlt
    have hv := g2.cell
    have hf := g2.frozen
    have hBlt := g2.lt
    have hlen1 : (pre.map (·.1.1)).length = pre.length := List.length_map _
    have hpl : pre.length ≤ 1000000 := by have := HLEN.out; omega
    have hszB := g4.size
    have HG1 := Lib.hid g1; have HG2 := Lib.hid g2; have HG3 := Lib.hid g3; have HG4 := Lib.hid g4
    have h611 : 1 ≤ 6 - 1 - 1 := by omega
    clear g1 g2 g3 g4
    gi_wp2_with (gi_at_builtin; refine wpListIn_append_own_at _ rfl _ _ 23 rfl w.heap.size 9 i0 _ 1 16 Tryz.underlying23 hi0 hz0 hz1 hz2 rfl (by decide) _ _ _ rfl (HG3.out.alloc _) ⟨W.heap.size, 0, none⟩ 1 1 [.string (bs x.1.1)] rfl rfl (cell_one_new _ _ _) (by simp [Value.oneCell']) (by unfold maxLen; omega) (by omega) (by simp; omega) ?_; intro v' w1 hown' hgrow _ hat; obtain ⟨g', cap', rfl⟩ := ownsRow_succ hown'; obtain ⟨hv1, hv2, hr2, hk2, hb2⟩ := HG2.out.appended (by decide) HG3.out HG4.out.size (Nat.le_refl _) hown' hgrow; have hc1 := hv1.cell; have hf1 := hv1.frozen)
    have hu2 : Upd (May (NamesQ w.heap.size m) (w.heap.size + 2) W) W (w1.setCell ⟨w.heap.size, 0, none⟩ (.slice (some ⟨g', 0, none⟩) (pre.length + 1) cap')) := by
      refine (((Upd.refl _ W).alloc _).trans (G := fun k => v.ownBlock = some k) (Upd.of_grownBy hgrow (fun k e => e)) (fun k hk => .inl (.inl (.inr ⟨?_, ?_, v, HG2.out.cell, hk⟩)))).setCell (p := ⟨w.heap.size, 0, none⟩) (.inl (.inl (.inl rfl))) _
      · intro e
        subst e
        rcases HG3.out.2 with ⟨e1, _⟩ | ⟨g, cap, cur, e1, hbase, _⟩
        · subst e1; simp [Value.ownBlock] at hk
        · subst e1; simp [Value.ownBlock] at hk; omega
      · intro e
        subst e
        exact BlkOf.ne (ownsRow_blk HG3.out hk) (box_blk HG1.out) (by decide) rfl
    have hx2 : Boxed (w1.setCell ⟨w.heap.size, 0, none⟩ (.slice (some ⟨g', 0, none⟩) (pre.length + 1) cap')) (w.heap.size + 1) 92 (.map (some m)) := by
      refine box_upd HG1.out hu2 ?_
      rintro (h | ⟨_, h⟩)
      · exact (namesQ_ne hmlt _ _ h).2 rfl
      · exact (box_blk HG1.out).noCells h
    refine ⟨hk2.from _, ⟨hu2, fun k hk => ?_⟩, ⟨hx2, _, hv2, ?_⟩, HG4.out.trans hb2⟩
    · rcases hk with rfl | ⟨h1, h2, u, h3, h4⟩
      · exact .inl (.inl (.inl rfl))
      · rw [hv2.cell] at h3
        cases h3
        rcases hat with hat | hat
        · rw [hat] at h4
          exact .inl (.inl (.inr ⟨h1, h2, v, HG2.out.cell, h4⟩))
        · rw [hat] at h4
          cases h4
          exact .inr (by rw [World.size_alloc]; omega)
    · rw [List.length_append, List.map_append]
      show World.ownsRow _ _ _ _ _ (pre.length + 1) (strCells (pre.map (·.1.1) ++ [x.1.1]))
      rw [strCells_snoc]
      exact hr2
  case done =>
    rintro DD ys W hDD rfl ⟨⟨g1, v, g2, g3⟩, g4⟩ hK
    have hv := g2.cell
    have hf := g2.frozen
    have HG2 := Lib.hid g2; have HG3 := Lib.hid g3; have HG4 := Lib.hid g4
    obtain ⟨q, cap, rfl⟩ := slice_len g3
    clear g1 g2 g3 g4
    gi_wp2
    have hK2 : (W.setCell ⟨w.heap.size, 0, none⟩ (.slice q F.m.length cap)).heap[DD]? = some (.deferred (some [])) := (KeepsOthers.setCell _ _ _).same DD _ hK rfl
    refine ⟨by simp, .inl ⟨_, _, rfl, run_takeDeferred hK2, ?_⟩⟩
    have hu : Upd (fun k => k = w.heap.size ∨ k = DD) W ((W.setCell ⟨w.heap.size, 0, none⟩ (.slice q F.m.length cap)).putObj DD (.deferred none)) :=
      ((Upd.refl (fun k => k = w.heap.size ∨ k = DD) W).setCell (p := ⟨w.heap.size, 0, none⟩) (.inl (.inl rfl)) _).trans (G := fun k => k = DD) (Upd.of_grownBy (grownBy_putObj' _ DD (.deferred none)) (fun k e => by cases e; rfl)) (fun k e => .inl (.inr e))
    have hu2 : Upd (fun k => k = DD) (W.setCell ⟨w.heap.size, 0, none⟩ (.slice q F.m.length cap)) ((W.setCell ⟨w.heap.size, 0, none⟩ (.slice q F.m.length cap)).putObj DD (.deferred none)) := Upd.of_grownBy (grownBy_putObj' _ DD (.deferred none)) (fun k e => by cases e; rfl)
    have hbx : Boxed (W.setCell ⟨w.heap.size, 0, none⟩ (.slice q F.m.length cap)) w.heap.size 23 (.slice q F.m.length cap) := HG2.out.set _
    have hb3 : Boxed ((W.setCell ⟨w.heap.size, 0, none⟩ (.slice q F.m.length cap)).putObj DD (.deferred none)) w.heap.size 23 (.slice q F.m.length cap) := box_upd hbx hu2 (by show ¬ w.heap.size = DD; omega)
    refine ⟨_, strs_out rfl _ _ w.heap.size q _ cap rfl hb3.cell, _, rfl, ?_, below_upd HG4.out hu (fun i hi => by rcases hi with rfl | rfl <;> omega) HG4.out.size, fun k hk => ?_⟩
    · have e1 : ys.map (·.1.1) = F.m.map (·.1) := by rw [← hL, List.map_map]; rfl
      have this := ownsRow_upd HG3.out hu (fun g hg h => by
        have hbk := ownsRow_blk HG3.out hg
        rcases h with rfl | rfl
        · exact BlkOf.ne hbk (box_blk HG2.out) (by decide) rfl
        · exact hbk.noCells ⟨_, hK, rfl⟩)
      have this0 : World.ownsRow _ 0 _ _ _ _ _ := ⟨this.1, by
        rcases this.2 with h | ⟨g, c, cur, h1, _, h3⟩
        · exact .inl h
        · exact .inr ⟨g, c, cur, h1, Nat.zero_le _, h3⟩⟩
      rw [e1, hLL] at this0
      exact this0
    · rcases HG3.out.2 with ⟨e1, _⟩ | ⟨g, c, cur, e1, hbase, _⟩
      · rw [← hLL, e1] at hk; simp [Value.ownBlock] at hk
      · rw [← hLL, e1] at hk; simp [Value.ownBlock] at hk; omega
  case stop =>
    rintro DD c pre W _ _ h _
    exact h.elim
end Go.Proofs.YtdmbadkpendfhaaGreatDoor

namespace Go.Proofs.YtdmbadkpendfhaaGreatDoor
open Go.RowKit Go.Maps Go.Sort Go.Shelf
open Fil
attribute [local go_sem] Oper.semAt_some

/-- What a round of bytes may turn: the builder, and what bytes there are. -/
def BytesQ (B m Bx : Nat) (W : World) (k : Nat) : Prop := k = B ∨ (k ≠ m ∧ k ≠ Bx ∧ BlkOf W k 5)
theorem BuiltAt.kind {w : World} {b : Nat} {l : List UInt8} {fp : Nat → Prop} (h : BuiltAt w b l fp) {k : Nat} (hk : fp k) : k = b ∨ BlkOf w k 5 := by
  obtain ⟨p, v, _, _, h3, _, _, rfl⟩ := h
  rcases hk with hk | hk
  · exact .inl hk
  · exact .inr (ownsRow_blk h3 hk)
theorem BuiltAt.blk {w : World} {b : Nat} {l : List UInt8} {fp : Nat → Prop} (h : BuiltAt w b l fp) : BlkOf w b 194 := by
  obtain ⟨p, v, h1, _⟩ := h
  exact ⟨_, _, h1⟩
theorem keepsFrom_upd {F : Nat → Prop} {W W' : World} (n : Nat) (hu : Upd F W W') (hF : ∀ k, F k → ¬ NoCells W k) : KeepsFrom n W W' :=
  ⟨hu.size, fun k o _ ho hc => (hu.block k (blk_lt ho) (fun h => hF k h ⟨o, ho, hc⟩)).trans ho⟩
theorem ent_len (x : Ent) : x.1.1.length ≤ 32 ∧ x.1.2.length ≤ 65535 := by
  have h := x.2
  unfold mayB at h
  simp at h
  exact ⟨h.2.1, h.2.2⟩
theorem ents_len (pre : List Ent) : ((pre.map (·.1)).flatMap entryB).length ≤ 65575 * pre.length := by
  rw [flat_length]
  induction pre with
  | nil => simp
  | cons x pre ih =>
    have := ent_len x
    have hc : cost x.1 = 8 + x.1.1.length + x.1.2.length := rfl
    rw [List.map_cons, List.map_cons, List.sum_cons, List.length_cons]
    omega
set_option maxRecDepth 100000 in
set_option maxHeartbeats 2000000 in
theorem fbytes_any {w : World} {m : Nat} {F : M} (h : FilMap w m F) (hg : Fil.Good F) (hc : used F ≤ 1000000) :
    Calls Tryz.prog 99 #[.map (some m)] w fun e w' => e = .returned (.string (bs (Fil.bytes F))) ∧ Below w.heap.size w w' := by
  have hmlt := h.lt
  have hul := used_len F
  have hlenF : F.length ≤ 1000000 := by omega
  have hln := h.below ((Below.refl w.heap.size w).alloc (Nat.le_refl _) (.cells #[.pointer none, .slice none 0 0] 194))
  have hlen0 := fun ty => hln.len ty
  have HM := Lib.hid hln; have HG := Lib.hid hg; have HC := Lib.hid hc; have HUL := Lib.hid hul
  have HB0 := Lib.hid ((Below.refl w.heap.size w).alloc (Nat.le_refl _) (.cells #[.pointer none, .slice none 0 0] 194))
  have HBU := Lib.hid (BuiltAt.made w)
  clear h hg hc hul hln
  refine (callsIn_wide (n := 6)).1 ?_
  refine callsIn_of_wp_marks Tryz.func99 rfl trivial ?_ rfl
  simp only [Tryz.ntmps99, List.size_toArray, List.length_cons, List.length_nil, Nat.reduceAdd, Nat.reduceSub, Array.replicate_succ, Array.replicate_zero, List.push_toArray, List.append_toArray, List.nil_append, List.cons_append]
  gi_wp2
  refine ⟨trivial, (callsIn_wide.2 (fnum_any F.length _ (by omega))).mono ?_⟩
  rintro e w1 ⟨rfl, hb⟩
  have HBU1 := Lib.hid (HBU.out.upd (Upd.of_below (F := fun _ => False) hb) (fun _ _ f => f))
  have HB1 := Lib.hid (HB0.out.trans (hb.mono HB0.out.size))
  have HM1 := Lib.hid (HM.out.below hb)
  clear hb
  gi_wp2
  refine ⟨trivial, (callsIn_wide.2 (bwriteS_any HBU1.out (Crc.le 4 F.length) (by simp [Crc.le_length]))).mono ?_⟩
  rintro e w2 ⟨rfl, fp2, hbu2, hu2, hs2⟩
  have hfp2 : ∀ k, fp2 k → w.heap.size ≤ k := fun k hk => by
    rcases hs2 k hk with h | h
    · rcases h with rfl | h
      · exact Nat.le_refl _
      · simp [Value.ownBlock] at h
    · exact Nat.le_trans HB1.out.size h
  have hB0fp : ∀ k, (k = w.heap.size ∨ (Value.slice none 0 0).ownBlock = some k) → k = w.heap.size := fun k hk => by
    rcases hk with h | h
    · exact h
    · simp [Value.ownBlock] at h
  have HB2 := Lib.hid (below_upd HB1.out hu2 (fun k hk => by rw [hB0fp k hk]; exact Nat.le_refl _) HB1.out.size)
  have HM2 := Lib.hid (HM1.out.upd hu2 (fun hk => by have := hB0fp m hk; omega))
  have HBU2 := Lib.hid hbu2; have HFP2 := Lib.hid hfp2
  clear HBU1 HB1 HM1 hbu2 hu2 hs2 hfp2 hB0fp HBU HB0 HM hlen0
  gi_wp2
  refine ⟨trivial, (callsIn_wide.2 (fsorted_any _ _)).mono ?_⟩
  rintro e w3 ⟨rfl, rfl⟩
  have hX0 : Boxed (w2.alloc (.cells #[.map (some m)] 92)) w2.heap.size 92 (.map (some m)) := Boxed.new w2 _ _
  have hbx : Below w2.heap.size w2 (w2.alloc (.cells #[.map (some m)] 92)) := (Below.refl _ _).alloc (Nat.le_refl _) _
  have hM0 := HM2.out.below hbx
  have hbu0 := HBU2.out.upd (Upd.of_below (F := fun _ => False) hbx) (fun _ _ f => f)
  have hb0 := HB2.out.trans (hbx.mono HB2.out.size)
  have hsz0 : (w2.alloc (.cells #[.map (some m)] 92)).heap.size = w2.heap.size + 1 := by rw [World.size_alloc]
  have hbB : w.heap.size < w2.heap.size := HBU2.out.lt _ HBU2.out.own
  obtain ⟨L, hL⟩ := ents_of F HG.out
  have hLL : L.length = F.length := by rw [← hL, List.length_map]
  generalize w2.alloc (.cells #[.map (some m)] 92) = W0 at *
  generalize w2.heap.size = Bx at *
  have hseq := fsorted_stops 5 (by omega) (BytesQ w.heap.size m Bx) (Bx + 1) Bx m F L hL W0 hX0.cell hM0 hlenF (by omega) (fun W k hk => by
      rcases hk with rfl | ⟨h1, h2, _⟩
      · omega
      · exact ⟨h1, h2⟩)
    (fun W W' g hW hW' hg hbl hq => by
      have h1 := hW.size
      rcases hq with rfl | ⟨_, _, h3⟩
      · omega
      · exact BlkOf.ne hbl h3 (by decide) rfl)
  have HSEQ := Lib.hid hseq; have HM0 := Lib.hid hM0; have HBU0 := Lib.hid hbu0; have HB0 := Lib.hid hb0
  clear hseq hM0 hbu0 hb0 hbx HM2 HBU2 HB2
  gi_wp2
  refine wpIn_rangeFunc_ownH (n := 6) rfl (by omega) (gf := 93) (lb := #[.pointer (some ⟨Bx, 0, none⟩)]) rfl trivial (enters_of Tryz.func93 (by kernel_rfl) rfl) HSEQ.out (fun h k => h.trans k)
    (fun W l o o' hl ho hc _ => Turns.putObj (by omega) ho hc (fun k hk => ?hputQ)) (Below.refl _ _) (fun _ => rfl)
    (fun pre W => (FilMap W m F ∧ Boxed W Bx 92 (.map (some m)) ∧ ∃ fp, BuiltAt W w.heap.size (Crc.le 4 F.length ++ (pre.map (·.1)).flatMap entryB) fp ∧ ∀ k, fp k → w.heap.size ≤ k) ∧ Below w.heap.size w W)
    (fun _ _ _ => False)
    (fun s A B row hs hg hr => ?hown)
    (fun _ _ _ _ _ hs _ _ => hs)
    ⟨⟨HM0.out, hX0, fp2, by rw [List.map_nil, List.flatMap_nil, List.append_nil]; exact HBU0.out, HFP2.out⟩, HB0.out⟩
    (fun x a' _ => a' = { tmps := #[.map (some m), undef, .string { data := #[] }, .pointer (some ⟨w.heap.size, 0, none⟩), .string (bs x.1.1), .string (bs x.1.2), .map (some m), .int .i64 (F.length : Int), .string (bs (Crc.le 4 F.length)), .tuple #[.int .i64 4, .nilIface], .map (some m), .func (.func 93) #[] #[.pointer (some ⟨Bx, 0, none⟩)], .string (bs x.1.1), .string (bs x.1.2), undef, undef, undef, undef, undef, undef, undef, undef, undef, undef, undef, undef, undef], defers := [] })
    (fun x a' _ X Y row hs hg hr => hs)
    ?assign ?body ?done ?stop
  case hputQ =>
    have hlt : l < W.heap.size := blk_lt ho
    by_cases e : k = l
    · exact .inl (.inr ⟨by omega, o, by rw [e]; exact ho, hc⟩)
    · refine .inl (.inl ?_)
      have hu := Upd.of_grownBy (F := fun k => k = l) (grownBy_putObj' W l o') (fun k e => by cases e; rfl)
      rcases hk with hk | ⟨h1, h2, h3⟩
      · exact .inl hk
      · refine .inr ⟨h1, h2, ?_⟩
        obtain ⟨cs, fr, h4⟩ := h3
        by_cases hk2 : k < W.heap.size
        · exact ⟨cs, fr, (hu.block k hk2 e).symm.trans h4⟩
        · exact absurd (blk_lt h4) (by rw [show (W.putObj l o').heap.size = W.heap.size by simp [World.putObj]]; exact hk2)
  case hown =>
    have hu := upd_noCells hg hr
    obtain ⟨⟨g1, g2, fp, g3, g4⟩, g5⟩ := hs
    refine ⟨⟨g1.upd hu (fun h => by have := g1.lt; omega), box_upd g2 hu (fun h => (box_blk g2).noCells h.2), fp, g3.upd hu (fun k hk h => ?_), g4⟩, below_upd g5 hu (fun i hi => by omega) g5.size⟩
    rcases g3.kind hk with rfl | hk
    · exact g3.blk.noCells h.2
    · exact hk.noCells h.2
  case assign =>
    rintro l pre x W K hI hK
    unfold encE
    gi_wp2
    exact hK _ _ ((KeepsOthers.refl _).from _) ⟨Upd.refl _ _, fun k hk => .inl (.inl hk)⟩ hI rfl
  case body =>
    rintro l pre x a' W hl ⟨r, hr⟩ ⟨⟨g1, g2, fp, g3, g4⟩, g5⟩ rfl hlt
    have HG1 := Lib.hid g1; have HG2 := Lib.hid g2; have HG3 := Lib.hid g3; have HG4 := Lib.hid g4; have HG5 := Lib.hid g5
    have h611 : 1 ≤ 6 - 1 - 1 := by omega
    obtain ⟨hx1, hx2⟩ := ent_len x
    have hpl := ents_len pre
    have hpl2 : pre.length ≤ 1000000 := by omega
    clear g1 g2 g3 g4 g5 hr
    gi_wp2
    refine ⟨trivial, (CallsIn.inRound l (callsIn_wide.2 (fnum_any x.1.1.length _ (by omega)))).mono ?_⟩
    rintro e w4 ⟨rfl, hb4⟩
    gi_wp2
    refine ⟨trivial, (CallsIn.inRound l (callsIn_wide.2 (fnum_any x.1.2.length _ (by omega)))).mono ?_⟩
    rintro e w5 ⟨rfl, hb5⟩
    have HB45 := Lib.hid (hb4.trans (hb5.mono hb4.size))
    clear hb4 hb5
    have HBU5 := Lib.hid (HG3.out.upd (Upd.of_below (F := fun _ => False) HB45.out) (fun _ _ f => f))
    gi_wp2
    refine ⟨trivial, (CallsIn.inRound l (callsIn_wide.2 (bwriteS_any HBU5.out (Crc.le 4 x.1.1.length ++ (x.1.1 ++ (Crc.le 4 x.1.2.length ++ x.1.2))) (by simp only [List.length_append, Crc.le_length]; omega)))).mono ?_⟩
    rintro e w6 ⟨rfl, fp6, hbu6, hu6, hs6⟩
    have HU6 := Lib.hid ((Upd.of_below (F := fp) HB45.out).trans hu6 (fun k hk => .inl hk))
    have HBU6 := Lib.hid hbu6; have HS6 := Lib.hid hs6
    clear hbu6 hu6 hs6
    gi_wp2
    have hkind : ∀ k, fp k → k = w.heap.size ∨ BlkOf W k 5 := fun k hk => HG3.out.kind hk
    have hfpQ : ∀ k, fp k → BytesQ w.heap.size m Bx W k := fun k hk => by
      rcases hkind k hk with h | h
      · exact .inl h
      · refine .inr ⟨fun e => ?_, fun e => ?_, h⟩
        · subst e; exact HG1.out.noBlk h
        · subst e; exact BlkOf.ne h (box_blk HG2.out) (by decide) rfl
    have hu : Upd (May (BytesQ w.heap.size m Bx) (Bx + 1) W) W w6 := HU6.out.mono (fun k hk => .inl (hfpQ k hk))
    refine ⟨keepsFrom_upd _ HU6.out (fun k hk h => ?_), Turns.of_kind hu (fun k hk he hq => ?_), ⟨HG1.out.upd HU6.out (fun hk => ?_), box_upd HG2.out HU6.out (fun hk => ?_), fp6, ?_, fun k hk => ?_⟩, below_upd HG5.out HU6.out (fun k hk => HG4.out k hk) HG5.out.size⟩
    · rcases hkind k hk with rfl | h2
      · exact HG3.out.blk.noCells h
      · exact h2.noCells h
    · rcases hq with rfl | ⟨h1, h2, cs, fr, h3⟩
      · exact .inl rfl
      · exact .inr ⟨h1, h2, cs, fr, he.symm.trans h3⟩
    · have := HG4.out m hk; omega
    · rcases hkind _ hk with h2 | h2
      · omega
      · exact BlkOf.ne h2 (box_blk HG2.out) (by decide) rfl
    · rw [List.map_append, List.flatMap_append, List.map_cons, List.map_nil, List.flatMap_cons, List.flatMap_nil, List.append_nil, ← List.append_assoc]
      exact HBU6.out
    · rcases HS6.out k hk with h | h
      · exact HG4.out k h
      · exact Nat.le_trans HG5.out.size (Nat.le_trans HB45.out.size h)
  case done =>
    rintro DD ys W hDD rfl ⟨⟨g1, g2, fp, g3, g4⟩, g5⟩ hK
    have HG3 := Lib.hid g3; have HG4 := Lib.hid g4; have HG5 := Lib.hid g5
    clear g1 g2 g3 g4 g5
    gi_wp2
    refine ⟨trivial, (callsIn_wide.2 (bstring_any HG3.out)).mono ?_⟩
    rintro e w6 ⟨rfl, hu6⟩
    gi_wp2
    have hK2 : w6.heap[DD]? = some (.deferred (some [])) := (hu6.block DD (blk_lt hK) (fun h => by
      rcases HG3.out.kind h with e | e
      · omega
      · exact e.noCells ⟨_, hK, rfl⟩)).trans hK
    refine ⟨by simp, .inl ⟨_, _, rfl, run_takeDeferred hK2, ?_⟩⟩
    have hu : Upd (fun k => k = DD) w6 (w6.putObj DD (.deferred none)) := Upd.of_grownBy (grownBy_putObj' w6 DD (.deferred none)) (fun k e => by cases e; rfl)
    have hb6 := below_upd HG5.out hu6 (fun k hk => HG4.out k hk) HG5.out.size
    exact ⟨_, (by simp [results, Tryz.results99, go_sem]; rfl), rfl, below_upd hb6 hu (fun k hk => by subst hk; omega) hb6.size⟩
  case stop =>
    rintro DD c pre W _ _ h _
    exact h.elim
end Go.Proofs.YtdmbadkpendfhaaGreatDoor
