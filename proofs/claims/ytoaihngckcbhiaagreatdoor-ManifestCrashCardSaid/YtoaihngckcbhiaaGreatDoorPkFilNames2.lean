/- FilNames2 -/
import Derived.Test.YtoaihngckcbhiaaGreatDoorPkBase
import Derived.Shelf.SlIter.Nil
import Derived.Shelf.SortM.Plain
import Derived.Shelf.SortM.SortNone
import Derived.Ground.GgzProg
import Derived.Ground.SlgmProg
import Derived.Test.YtoaihngckcbhiaaGreatDoorPkFilRep2
import Derived.RangeFuncNested
import Derived.RangeFuncBound
import Derived.RangeFuncCalls
import Derived.RangeFuncLeaves
import Derived.RangeFuncBox
import Derived.Shelf.Abstract
import Derived.Shelf.RegionOpen
import Derived.WalkKit
import Derived.OwnWalkIn
import Derived.TacticsInMore
import Derived.LoopNIn
import Derived.LoopIn
import Derived.Maps.AppendAt
import Derived.Maps.OwnIn
import Derived.Test.YtoaihngckcbhiaaGreatDoorPkWalOpen2
namespace Go.Proofs.YtoaihngckcbhiaaGreatDoor
open Go.RowKit Go.Maps Go.Sort Go.Shelf
def fkeys_ren : Go.Shelf.Ren := ⟨fun | 7 => 178 | 10 => 190 | n => n, fun | 23 => 65 | 26 => 9 | 3 => 142 | 28 => 203 | 0 => 0 | 27 => 202 | 33 => 216 | 4 => 4 | n => n, fun | n => n⟩
theorem fkeys : Go.Proofs.SlLaysZ.n7 Tryz.prog fkeys_ren := {
  mixed := by kernel_rfl
  f7 := ⟨Tryz.f178.name, by decide, Tryz.func178.trans (congrArg some (by kernel_rfl))⟩
  f10 := ⟨Tryz.f190.name, by decide, Tryz.func190.trans (congrArg some (by kernel_rfl))⟩
  t0 := Tryz.underlying0
  a0 := Tryz.isAgg0
  z0 := Tryz.sizeOf0
  v0 := Tryz.zeroValue0
  t4 := Tryz.underlying4
  a4 := Tryz.isAgg4
  z4 := Tryz.sizeOf4
  v4 := Tryz.zeroValue4
  t23 := Tryz.underlying65
  a23 := Tryz.isAgg65
  z23 := Tryz.sizeOf65
  v23 := Tryz.zeroValue65
  t26 := Tryz.underlying9
  a26 := Tryz.isAgg9
  z26 := Tryz.sizeOf9
  v26 := Tryz.zeroValue9
  t27 := Tryz.underlying202
  a27 := Tryz.isAgg202
  z27 := Tryz.sizeOf202
  v27 := Tryz.zeroValue202
  t28 := Tryz.underlying203
  a28 := Tryz.isAgg203
  z28 := Tryz.sizeOf203
  v28 := Tryz.zeroValue203
  t33 := Tryz.underlying216
  a33 := Tryz.isAgg216
  z33 := Tryz.sizeOf216
  v33 := Tryz.zeroValue216 }
def fsortd_ren : Go.Shelf.Ren := ⟨fun | 6 => 177 | 8 => 189 | 9 => 115 | 11 => 196 | 13 => 150 | 12 => 149 | 23 => 171 | 24 => 172 | 14 => 162 | 15 => 163 | 16 => 164 | 17 => 165 | 18 => 166 | 19 => 167 | 20 => 168 | 21 => 169 | 22 => 170 | 25 => 183 | 26 => 184 | 27 => 185 | 28 => 186 | 29 => 187 | 30 => 188 | 31 => 195 | n => n, fun | 26 => 9 | 28 => 203 | 24 => 30 | 0 => 0 | 3 => 3 | 37 => 198 | 48 => 167 | 50 => 29 | 4 => 4 | 40 => 226 | 39 => 225 | 45 => 231 | 5 => 5 | 9 => 9 | 51 => 244 | 55 => 247 | 57 => 252 | 58 => 253 | 33 => 216 | n => n, fun | n => n⟩
theorem fsortd : Go.Proofs.SlLaysZ.n6 Tryz.prog fsortd_ren := {
  mixed := by kernel_rfl
  f6 := ⟨Tryz.f177.name, by decide, Tryz.func177.trans (congrArg some (by kernel_rfl))⟩
  f8 := ⟨Tryz.f189.name, by decide, Tryz.func189.trans (congrArg some (by kernel_rfl))⟩
  f11 := ⟨Tryz.f196.name, by decide, Tryz.func196.trans (congrArg some (by kernel_rfl))⟩
  t0 := Tryz.underlying0
  a0 := Tryz.isAgg0
  z0 := Tryz.sizeOf0
  v0 := Tryz.zeroValue0
  t24 := Tryz.underlying30
  a24 := Tryz.isAgg30
  z24 := Tryz.sizeOf30
  v24 := Tryz.zeroValue30
  t26 := Tryz.underlying9
  a26 := Tryz.isAgg9
  z26 := Tryz.sizeOf9
  v26 := Tryz.zeroValue9
  t28 := Tryz.underlying203
  a28 := Tryz.isAgg203
  z28 := Tryz.sizeOf203
  v28 := Tryz.zeroValue203
  i26 := by kernel_rfl }
def fsort_ren : Go.Shelf.Ren := ⟨fun | 6 => 115 | 8 => 150 | 9 => 149 | 19 => 171 | 20 => 172 | 21 => 162 | 22 => 163 | 23 => 164 | 24 => 165 | 25 => 166 | 26 => 167 | 27 => 168 | 28 => 169 | 29 => 170 | 36 => 183 | 31 => 184 | 32 => 185 | 37 => 186 | 38 => 187 | 39 => 188 | 41 => 195 | n => n, fun | 27 => 30 | 29 => 9 | 3 => 3 | 32 => 198 | 26 => 30 | 0 => 0 | 44 => 167 | 46 => 29 | 4 => 4 | 36 => 226 | 35 => 225 | 41 => 231 | 5 => 5 | 9 => 9 | 53 => 244 | 57 => 247 | 63 => 252 | 64 => 253 | n => n, fun | n => n⟩
theorem fsort : Go.Proofs.SlLaysM.n6 Tryz.prog fsort_ren := {
  mixed := by kernel_rfl
  f6 := ⟨Tryz.f115.name, by decide, Tryz.func115.trans (congrArg some (by kernel_rfl))⟩
  f8 := Tryz.func150.trans (congrArg some (by kernel_rfl))
  f9 := ⟨Tryz.f149.name, by decide, Tryz.func149.trans (congrArg some (by kernel_rfl))⟩
  f19 := Tryz.func171.trans (congrArg some (by kernel_rfl))
  f20 := Tryz.func172.trans (congrArg some (by kernel_rfl))
  f21 := ⟨Tryz.f162.name, by decide, Tryz.func162.trans (congrArg some (by kernel_rfl))⟩
  f22 := ⟨Tryz.f163.name, by decide, Tryz.func163.trans (congrArg some (by kernel_rfl))⟩
  f23 := ⟨Tryz.f164.name, by decide, Tryz.func164.trans (congrArg some (by kernel_rfl))⟩
  f24 := ⟨Tryz.f165.name, by decide, Tryz.func165.trans (congrArg some (by kernel_rfl))⟩
  f25 := ⟨Tryz.f166.name, by decide, Tryz.func166.trans (congrArg some (by kernel_rfl))⟩
  f26 := ⟨Tryz.f167.name, by decide, Tryz.func167.trans (congrArg some (by kernel_rfl))⟩
  f27 := ⟨Tryz.f168.name, by decide, Tryz.func168.trans (congrArg some (by kernel_rfl))⟩
  f28 := ⟨Tryz.f169.name, by decide, Tryz.func169.trans (congrArg some (by kernel_rfl))⟩
  f29 := ⟨Tryz.f170.name, by decide, Tryz.func170.trans (congrArg some (by kernel_rfl))⟩
  f31 := Tryz.func184.trans (congrArg some (by kernel_rfl))
  f32 := Tryz.func185.trans (congrArg some (by kernel_rfl))
  f36 := ⟨Tryz.f183.name, by decide, Tryz.func183.trans (congrArg some (by kernel_rfl))⟩
  f37 := ⟨Tryz.f186.name, by decide, Tryz.func186.trans (congrArg some (by kernel_rfl))⟩
  f38 := ⟨Tryz.f187.name, by decide, Tryz.func187.trans (congrArg some (by kernel_rfl))⟩
  f39 := ⟨Tryz.f188.name, by decide, Tryz.func188.trans (congrArg some (by kernel_rfl))⟩
  f41 := ⟨Tryz.f195.name, by decide, Tryz.func195.trans (congrArg some (by kernel_rfl))⟩
  t0 := Tryz.underlying0
  a0 := Tryz.isAgg0
  z0 := Tryz.sizeOf0
  v0 := Tryz.zeroValue0
  t3 := Tryz.underlying3
  a3 := Tryz.isAgg3
  z3 := Tryz.sizeOf3
  v3 := Tryz.zeroValue3
  t4 := Tryz.underlying4
  a4 := Tryz.isAgg4
  z4 := Tryz.sizeOf4
  v4 := Tryz.zeroValue4
  t5 := Tryz.underlying5
  a5 := Tryz.isAgg5
  z5 := Tryz.sizeOf5
  v5 := Tryz.zeroValue5
  t9 := Tryz.underlying9
  a9 := Tryz.isAgg9
  z9 := Tryz.sizeOf9
  v9 := Tryz.zeroValue9
  t26 := Tryz.underlying30
  a26 := Tryz.isAgg30
  z26 := Tryz.sizeOf30
  v26 := Tryz.zeroValue30
  t27 := Tryz.underlying30
  a27 := Tryz.isAgg30
  z27 := Tryz.sizeOf30
  v27 := Tryz.zeroValue30
  t29 := Tryz.underlying9
  a29 := Tryz.isAgg9
  z29 := Tryz.sizeOf9
  v29 := Tryz.zeroValue9
  t32 := Tryz.underlying198
  a32 := Tryz.isAgg198
  z32 := Tryz.sizeOf198
  v32 := Tryz.zeroValue198
  t35 := Tryz.underlying225
  a35 := Tryz.isAgg225
  z35 := Tryz.sizeOf225
  v35 := Tryz.zeroValue225
  t36 := Tryz.underlying226
  a36 := Tryz.isAgg226
  z36 := Tryz.sizeOf226
  v36 := Tryz.zeroValue226
  t41 := Tryz.underlying231
  a41 := Tryz.isAgg231
  z41 := Tryz.sizeOf231
  v41 := Tryz.zeroValue231
  t44 := Tryz.underlying167
  a44 := Tryz.isAgg167
  z44 := Tryz.sizeOf167
  v44 := Tryz.zeroValue167
  t46 := Tryz.underlying29
  a46 := Tryz.isAgg29
  z46 := Tryz.sizeOf29
  v46 := Tryz.zeroValue29
  t53 := Tryz.underlying244
  a53 := Tryz.isAgg244
  z53 := Tryz.sizeOf244
  v53 := Tryz.zeroValue244
  t57 := Tryz.underlying247
  a57 := Tryz.isAgg247
  z57 := Tryz.sizeOf247
  v57 := Tryz.zeroValue247
  t63 := Tryz.underlying252
  a63 := Tryz.isAgg252
  z63 := Tryz.sizeOf252
  v63 := Tryz.zeroValue252
  t64 := Tryz.underlying253
  a64 := Tryz.isAgg253
  z64 := Tryz.sizeOf253
  v64 := Tryz.zeroValue253 }
end Go.Proofs.YtoaihngckcbhiaaGreatDoor
namespace Go.Proofs.YtoaihngckcbhiaaGreatDoor
open Go.RowKit Go.Maps Go.Sort Go.Shelf
open Fil
attribute [local go_sem] Oper.semAt_some
theorem fsortsS (m : Nat) : AnyZ.SortsIn Tryz.prog fsortd_ren Fence.wide m :=
  ⟨fun blk off cap ss W hH hblk hsz => callsIn_wide.2 (AnyM.slices_Sort_string fsort blk off cap ss W hH hblk hsz),
   fun p cap W => callsIn_wide.2 (AnyM.slices_Sort_string_none fsort p cap W)⟩
theorem fmapKeys (mb : Option Nat) (W : World) : Calls Tryz.prog 178 #[.map mb] W fun e w' => e = .returned (.func (.func 190) #[] #[.pointer (some ⟨W.heap.size, 0, none⟩)]) ∧ w' = W.alloc (.cells #[.map mb] 65) :=
  callsIn_wide.1 (AnyZ.keys_in fkeys Fence.wide 5 trivial rfl mb W)
theorem names_sorted {F : M} (h : Up F) {ss : List T} (hp : ss.Perm (F.map (·.1))) : ss.mergeSort (fun x y => decide (x ≤ y)) = F.map (·.1) := by
  have e : ss.mergeSort leB = (F.map (·.1)).mergeSort leB := mergeSort_of_perm hp
  have e2 : (F.map (·.1)).mergeSort leB = F.map (·.1) := by
    refine List.mergeSort_of_pairwise ?_
    refine List.pairwise_map.2 (h.imp fun {a b} hab => ?_)
    show decide (a.1 ≤ b.1) = true
    simpa using List.not_lt.1 (lt_asym hab)
  exact e.trans e2
set_option maxHeartbeats 1000000 in
theorem fsortedKeys {w : World} {m : Nat} {F : M} (h : FilMap w m F) (hlen : F.length ≤ 1000000) :
    Calls Tryz.prog 177 #[.func (.func 190) #[] #[.pointer (some ⟨w.heap.size, 0, none⟩)]] (w.alloc (.cells #[.map (some m)] 65)) fun e w' =>
      ∃ v, e = .returned v ∧ w'.ownsRow (w.heap.size + 1) 9 1 v F.length ((F.map (·.1)).map encStr) ∧ Below w.heap.size w w' := by
  obtain ⟨hu, kv, hperm, hmap⟩ := h
  obtain ⟨D, hown, hsz, hkp⟩ := hmap.keyed
  have hkl : kv.length = F.length := by rw [hperm.length_eq]; unfold filKv; rw [List.length_map]
  have hkeys : (kv.map (·.1)).Perm (F.map (·.1)) := by rw [← filKv_keys]; exact hperm.map _
  have hbl := hown.lt
  have hseq : SeqGives Fence.wide 2 Tryz.prog 190 #[.pointer (some ⟨w.heap.size, 0, none⟩)] encStr (fun ss => ss.Perm (strKeys D)) (Maps.size D) (w.alloc (.cells #[.map (some m)] 65)) :=
    AnyZ.keys_gives (ρ := fkeys_ren) { fkeys with } Fence.wide _ trivial rfl (by omega) w.heap.size m kv.length D _ (by simp) (by simp) (by
      obtain ⟨es, clock, hb, Ft, hs, hD⟩ := hown
      exact ⟨es, clock, (Below.heap_alloc _ _ m hbl).trans hb, Ft, hs, hD⟩)
  have cS := AnyZ.sorted_in fsortd Fence.wide 5 trivial trivial trivial trivial rfl (by omega) (fsortsS _) (enters_of Tryz.func115 (by kernel_rfl) rfl) 190 #[.pointer (some ⟨w.heap.size, 0, none⟩)] trivial (enters_of Tryz.func190 (by kernel_rfl) rfl) _ _ (by unfold maxLen; omega) (by omega) _ hseq
  refine (callsIn_wide.1 cS).mono ?_
  rintro e w' ⟨v, ss, rfl, hS, hrow, _, hb⟩
  have hss : ss.Perm (F.map (·.1)) := (hS.trans hkp.symm).trans hkeys
  have e1 : ss.length = F.length := by have := hss.length_eq; simpa using this
  rw [e1, names_sorted hu hss] at hrow
  exact ⟨v, rfl, by rw [World.size_alloc] at hrow; exact hrow, ((Below.refl _ w).alloc (Nat.le_refl _) _).trans (hb.mono (by rw [World.size_alloc]; omega))⟩
theorem run_field_text (W : World) (s : List UInt8) : (Instr.field 142 (.agg #[.string (bs s)]) 0).run Tryz.prog W = .ok (.string (bs s)) W := by
  simp [Instr.field, run_underlying Tryz.underlying142, go_sem, asAgg, Result.andThen]
def NoCells (W : World) (k : Nat) : Prop := ∃ o, W.heap[k]? = some o ∧ o.isCells = false
def May (Q : World → Nat → Prop) (n₀ : Nat) (W : World) (k : Nat) : Prop := Q W k ∨ (n₀ ≤ k ∧ NoCells W k)
structure Turns (Q : World → Nat → Prop) (n₀ : Nat) (W W' : World) : Prop where
  upd : Upd (May Q n₀ W) W W'
  stay : ∀ k, Q W' k → May Q n₀ W k ∨ W.heap.size ≤ k
theorem May.back {Q : World → Nat → Prop} {n₀ : Nat} {A B : World} (h : Turns Q n₀ A B) {k : Nat} (hk : May Q n₀ B k) : May Q n₀ A k ∨ A.heap.size ≤ k := by
  rcases hk with hk | ⟨h1, o, h2, h3⟩
  · exact h.stay k hk
  · by_cases hlt : k < A.heap.size
    · by_cases hm : May Q n₀ A k
      · exact .inl hm
      · exact .inl (.inr ⟨h1, o, (h.upd.block k hlt hm).symm.trans h2, h3⟩)
    · exact .inr (by omega)
theorem Turns.trans {Q : World → Nat → Prop} {n₀ : Nat} {A B C : World} (h : Turns Q n₀ A B) (k : Turns Q n₀ B C) : Turns Q n₀ A C :=
  ⟨h.upd.trans k.upd (fun _ hi => May.back h hi), fun i hi => by
    rcases k.stay i hi with hi | hi
    · exact May.back h hi
    · exact .inr (Nat.le_trans h.upd.size hi)⟩
theorem Turns.putObj {Q : World → Nat → Prop} {n₀ : Nat} {W : World} {l : Nat} {o o' : Obj} (hl : n₀ ≤ l) (ho : W.heap[l]? = some o) (hc : o.isCells = false) (hQ : ∀ k, Q (W.putObj l o') k → May Q n₀ W k ∨ W.heap.size ≤ k) : Turns Q n₀ W (W.putObj l o') :=
  ⟨Upd.of_grownBy (grownBy_putObj' W l o') (fun k e => by cases e; exact .inr ⟨hl, o, ho, hc⟩), hQ⟩
theorem Turns.of_kind {Q : World → Nat → Prop} {n₀ : Nat} {W W' : World} (h : Upd (May Q n₀ W) W W') (hQ : ∀ k, k < W.heap.size → W'.heap[k]? = W.heap[k]? → Q W' k → Q W k) : Turns Q n₀ W W' :=
  ⟨h, fun k hk => by
    by_cases hlt : k < W.heap.size
    · by_cases hm : May Q n₀ W k
      · exact .inl hm
      · exact .inl (.inl (hQ k hlt (h.block k hlt hm) hk))
    · exact .inr (by omega)⟩
abbrev Ent := { p : T × T // mayB p.1 p.2 = true }
def encE (x : Ent) : Array Value := #[.string (bs x.1.1), .string (bs x.1.2)]
theorem ents_of : ∀ (F : M), Fil.Good F → ∃ L : List Ent, L.map (·.1) = F
  | [], _ => ⟨[], rfl⟩
  | p :: F, h => by
    obtain ⟨L, hL⟩ := ents_of F (fun q hq => h q (List.mem_cons_of_mem _ hq))
    exact ⟨⟨p, h p List.mem_cons_self⟩ :: L, by rw [List.map_cons, hL]⟩
set_option maxRecDepth 100000 in
set_option maxHeartbeats 1000000 in
theorem fsorted_any (mb : Option Nat) (w : World) :
    Calls Tryz.prog 155 #[.map mb] w fun e w' => e = .returned (.func (.func 176) #[] #[.pointer (some ⟨w.heap.size, 0, none⟩)]) ∧ w' = w.alloc (.cells #[.map mb] 65) := by
  go_enter Tryz.func155, Tryz.ntmps155
  go_wp2_with fail
  go_ret
  exact ⟨rfl, rfl⟩
set_option maxRecDepth 100000 in
set_option maxHeartbeats 2000000 in
theorem fsorted_stops (n : Nat) (hn : 1 ≤ n) (Q : World → Nat → Prop) (n₀ Bx m : Nat) (F : M) (L : List Ent) (hL : L.map (·.1) = F) (w : World) (hc : w.cell? ⟨Bx, 0, none⟩ = some (.map (some m))) (hM : FilMap w m F) (hlen : F.length ≤ 1000000) (hn₀ : w.heap.size ≤ n₀) (hQ1 : ∀ W k, Q W k → k ≠ m ∧ k ≠ Bx)
    (hQ2 : ∀ W W' g, Below w.heap.size w W → Below W.heap.size W W' → W.heap.size ≤ g → BlkOf W' g 9 → ¬ Q W' g) :
    SeqStopsK Fence.wide n Tryz.prog 176 #[.pointer (some ⟨Bx, 0, none⟩)] encE (Turns Q n₀) (fun ys => ys = L) (fun _ => True) L.length w := fun l J Jx W hW hJ _ hY h0 => by
  have hBx := block_lt_of_cell hc
  have hmlt := hM.lt
  have hc' := (hW.cell (p := ⟨Bx, 0, none⟩) hBx).trans hc
  have hM' := hM.below hW
  have hsz := hW.size
  have hll : L.length = F.length := by rw [← hL, List.length_map]
  have hb1 : Below W.heap.size W (W.alloc (.cells #[.map (some m)] 65)) := (Below.refl _ _).alloc (Nat.le_refl _) _
  have HS := Lib.hid (fsortedKeys hM' hlen)
  have HM := Lib.hid hM'; have HL := Lib.hid hL; have HLL := Lib.hid hll; have HLEN := Lib.hid hlen; have HC := Lib.hid hc'
  have HQ1 := Lib.hid hQ1; have HQ2 := Lib.hid (fun W' g => hQ2 W W' g hW)
  clear hc hM hM' hW hlen hQ1 hQ2 hll hL
  refine callsIn_of_wp Tryz.func176 rfl trivial ?_ rfl
  simp only [Tryz.ntmps176, List.size_toArray, List.length_cons, List.length_nil, Nat.reduceAdd, Nat.reduceSub, Array.replicate_succ, Array.replicate_zero, List.push_toArray, List.append_toArray, List.nil_append, List.cons_append]
  have hfK : Fence.wide.fn 178 := trivial
  have hfS : Fence.wide.fn 177 := trivial
  gi_wp2_with (first
    | (gi_at_call 178; refine (callsIn_wide.2 (fmapKeys _ _)).mono ?_; rintro e w' ⟨rfl, rfl⟩)
    | (gi_at_call 177; refine (callsIn_wide.2 HS.out).mono ?_; rintro e W1 ⟨v, rfl, hrow, hbW⟩; obtain ⟨q, cap, rfl⟩ := slice_len hrow))
  have hJ1 : J [] W1 := hJ _ _ _ none h0 ⟨hbW.os, hbW.tape, hbW.output, hbW.size, fun k hk _ => hbW.block k hk⟩ (fun r e => by cases e)
  have HROW := Lib.hid hrow; have HBW := Lib.hid hbW
  clear hrow hbW h0
  gi_loopw [9] (fun i wr => ∃ k : Nat, k ≤ F.length ∧ i = .int .i64 k ∧ J (L.take k) wr ∧ Turns Q n₀ W1 wr)
    (fun i _ => F.length - (intOf i).toNat)
  case atStart => exact ⟨0, Nat.zero_le _, rfl, by rw [List.take_zero]; exact hJ1, ⟨Upd.refl _ _, fun k hk => .inl (.inl hk)⟩⟩
  case round =>
    obtain ⟨k, hk, rfl, hJs, hnx⟩ := hrel
    by_cases hlt : k < F.length
    · have hkL : k < L.length := by rw [HLL.out]; exact hlt
      obtain ⟨g, rfl⟩ : ∃ g, q = some ⟨g, 0, none⟩ := by
        rcases HROW.out.2 with ⟨e1, e2⟩ | ⟨g, cap, _, e1, _⟩
        · omega
        · exact ⟨g, by injection e1⟩
      have hgo := ownsRow_blk HROW.out (g := g) rfl
      have hgW : W.heap.size + 1 ≤ g := by
        rcases HROW.out.2 with ⟨e1, _⟩ | ⟨g', cap', _, e1, hb, _⟩
        · injection e1 with e1; cases e1
        · injection e1 with e1; cases e1; exact hb
      have hnq : ¬ Q W1 g := HQ2.out W1 g HBW.out (by omega) hgo
      have hnm : ¬ May Q n₀ W1 g := by
        rintro (h | ⟨_, o, h1, h2⟩)
        · exact hnq h
        · obtain ⟨cs, fr, h3⟩ := hgo
          rw [h1] at h3
          cases h3
          cases h2
      have hltr : ∀ i, i < F.length → wr.cell? ⟨g, i, none⟩ = W1.cell? ⟨g, i, none⟩ := fun i hi => World.cell?_of_block (hnx.upd.block g hgo.lt hnm)
      have hsz1 := HBW.out.size
      have hxF : F[k] = L[k].1 := by
        have e : (L.map (·.1))[k]? = F[k]? := by rw [HL.out]
        rw [List.getElem?_map, List.getElem?_eq_getElem hkL, List.getElem?_eq_getElem hlt] at e
        simpa using e.symm
      have hkey : wr.cell? ⟨g, k, none⟩ = some (.string (bs L[k].1.1)) := by
        rw [hltr k hlt]
        have := HROW.out.cells (g := g) rfl k (encStr F[k].1) (by rw [List.getElem?_map, List.getElem?_map, List.getElem?_eq_getElem hlt]; rfl)
        rw [add_plain, hxF] at this
        exact this
      have hbox : wr.cell? ⟨Bx, 0, none⟩ = some (.map (some m)) := by
        refine (World.cell?_of_block (hnx.upd.block Bx (by omega) ?_)).trans ((HBW.out.cell (p := ⟨Bx, 0, none⟩) (by show Bx < W.heap.size; omega)).trans HC.out)
        rintro (h | ⟨h1, _⟩)
        · exact (HQ1.out _ _ h).2 rfl
        · omega
      have hmr : FilMap wr m F := by
        refine (HM.out.below HBW.out).upd hnx.upd ?_
        rintro (h | ⟨h1, _⟩)
        · exact (HQ1.out _ _ h).1 rfl
        · omega
      have hxm : (L[k].1.1, L[k].1.2) ∈ F := by
        rw [← hxF]
        exact List.getElem_mem hlt
      have hgx := get_mem hmr.1 hxm
      have hxmay := L[k].2
      have hxb : L[k].1.1.length ≤ 32 ∧ L[k].1.2.length ≤ 65535 := by unfold mayB at hxmay; simp at hxmay; exact ⟨hxmay.2.1, hxmay.2.2⟩
      have hlk := hmr.lookup L[k].1.1 (by unfold maxLen; omega)
      rw [hgx, Option.getD_some] at hlk
      have hidx := run_index_slice Tryz.prog 30 9 Tryz.underlying30 1 (by kernel_rfl) ⟨g, 0, none⟩ F.length cap k hlt
      rw [add_plain, Nat.mul_one] at hidx
      have HTK := Lib.hid (show L.take (k + 1) = L.take k ++ [L[k]] by rw [List.take_add_one, List.getElem?_eq_getElem hkL]; rfl)
      obtain ⟨fn, tmps, assign, body, hy, hR⟩ := hY _ L[k] wr hJs (by rw [List.length_take]; omega)
      unfold encE at hy
      have HNX := Lib.hid hnx
      clear hgo hgW hnq hnm hltr hxF hmr hxm hgx hxmay hxb hnx hJs hsz1
      generalize L[k] = x at *
      clear hkL
      obtain ⟨⟨xn, xd⟩, hxx⟩ := x
      simp only at hkey hlk hy
      have hfd := fun W => run_field_text W xd
      have hFL := HLEN.out
      gi_wp2
      refine hR.mono ?_
      rintro e W3 (⟨rfl, hJ3, hk3⟩ | ⟨rfl, hJx3⟩)
      · gi_wp2
        go_roundw
        case rel => exact ⟨k + 1, by omega, by simp, by rw [HTK.out]; exact hJ3, HNX.out.trans hk3⟩
        case measure => simp [intOf]; omega
      · gi_wp2
        refine bodyPost_ret (results_none rfl _ _ _) rfl ?_
        exact ⟨⟨_, rfl⟩, .inr ⟨_, trivial, hJx3⟩⟩
    · obtain rfl : k = F.length := by omega
      gi_wp2
      go_end0
      exact ⟨⟨_, rfl⟩, .inl ⟨_, rfl, by rw [← HLL.out, List.take_length] at hJs; exact hJs⟩⟩
end Go.Proofs.YtoaihngckcbhiaaGreatDoor
namespace Go.Proofs.YtoaihngckcbhiaaGreatDoor
open Go.RowKit Go.Maps Go.Sort Go.Shelf
open Fil
attribute [local go_sem] Oper.semAt_some
theorem BlkOf.noCells {W : World} {k : Nat} {t : TypeId} (h : BlkOf W k t) : ¬ NoCells W k := by
  obtain ⟨cs, fr, h⟩ := h
  rintro ⟨o, h1, h2⟩
  rw [h] at h1
  cases h1
  cases h2
theorem upd_noCells {A B : World} {row : Option Nat} {n : Nat} (hg : A.grownBy B row) (hr : ∀ r, row = some r → n ≤ r ∧ ∃ o : Obj, A.heap[r]? = some o ∧ o.isCells = false) : Upd (fun k => n ≤ k ∧ NoCells A k) A B :=
  Upd.of_grownBy hg (fun k e => hr k e)
theorem box_blk {W : World} {B : Nat} {t : TypeId} {v : Value} (h : Boxed W B t v) : BlkOf W B t := ⟨_, _, h⟩
theorem box_upd {F : Nat → Prop} {W W' : World} {B : Nat} {t : TypeId} {v : Value} (h : Boxed W B t v) (hu : Upd F W W') (hF : ¬ F B) : Boxed W' B t v := (hu.block B h.lt hF).trans h
end Go.Proofs.YtoaihngckcbhiaaGreatDoor
namespace Go.Proofs.YtoaihngckcbhiaaGreatDoor
open Go.RowKit Go.Maps Go.Sort Go.Shelf
open Fil
attribute [local go_sem] Oper.semAt_some
def BytesQ (B m Bx : Nat) (W : World) (k : Nat) : Prop := k = B ∨ (k ≠ m ∧ k ≠ Bx ∧ BlkOf W k 5)
theorem BuiltAt.kind {w : World} {b : Nat} {l : List UInt8} {fp : Nat → Prop} (h : BuiltAt w b l fp) {k : Nat} (hk : fp k) : k = b ∨ BlkOf w k 5 := by
  obtain ⟨p, v, _, _, h3, _, _, rfl⟩ := h
  rcases hk with hk | hk
  · exact .inl hk
  · exact .inr (ownsRow_blk h3 hk)
theorem BuiltAt.blk {w : World} {b : Nat} {l : List UInt8} {fp : Nat → Prop} (h : BuiltAt w b l fp) : BlkOf w b 178 := by
  obtain ⟨p, v, h1, _⟩ := h
  exact ⟨_, _, h1⟩
theorem keepsFrom_upd {F : Nat → Prop} {W W' : World} (n : Nat) (hu : Upd F W W') (hF : ∀ k, F k → ¬ NoCells W k) : KeepsFrom n W W' :=
  ⟨hu.size, fun k o _ ho hc => (hu.block k (blk_lt ho) (fun h => hF k h ⟨o, ho, hc⟩)).trans ho⟩
theorem ent_len (x : Ent) : x.1.1.length ≤ 32 ∧ x.1.2.length ≤ 65535 := by
  have h := x.2
  unfold mayB at h
  simp at h
  exact ⟨h.2.1, h.2.2⟩
theorem ents_len (pre : List Ent) : ((pre.map (·.1)).flatMap entryB).length ≤ 65575 * pre.length := by
  rw [flat_length]
  induction pre with
  | nil => simp
  | cons x pre ih =>
    have := ent_len x
    have hc : cost x.1 = 8 + x.1.1.length + x.1.2.length := rfl
    rw [List.map_cons, List.map_cons, List.sum_cons, List.length_cons]
    omega
set_option maxRecDepth 100000 in
set_option maxHeartbeats 2000000 in
theorem fbytes_any {w : World} {m : Nat} {F : M} (h : FilMap w m F) (hg : Fil.Good F) (hc : used F ≤ 1000000) :
    Calls Tryz.prog 135 #[.map (some m)] w fun e w' => e = .returned (.string (bs (Fil.bytes F))) ∧ Below w.heap.size w w' := by
  have hmlt := h.lt
  have hul := used_len F
  have hlenF : F.length ≤ 1000000 := by omega
  have hln := h.below ((Below.refl w.heap.size w).alloc (Nat.le_refl _) (.cells #[.pointer none, .slice none 0 0] 178))
  have hlen0 := fun ty => hln.len ty
  have HM := Lib.hid hln; have HG := Lib.hid hg; have HC := Lib.hid hc; have HUL := Lib.hid hul
  have HB0 := Lib.hid ((Below.refl w.heap.size w).alloc (Nat.le_refl _) (.cells #[.pointer none, .slice none 0 0] 178))
  have HBU := Lib.hid (BuiltAt.made w)
  clear h hg hc hul hln
  refine (callsIn_wide (n := 6)).1 ?_
  refine callsIn_of_wp_marks Tryz.func135 rfl trivial ?_ rfl
  simp only [Tryz.ntmps135, List.size_toArray, List.length_cons, List.length_nil, Nat.reduceAdd, Nat.reduceSub, Array.replicate_succ, Array.replicate_zero, List.push_toArray, List.append_toArray, List.nil_append, List.cons_append]
  gi_wp2
  refine ⟨trivial, (callsIn_wide.2 (fnum_any F.length _ (by omega))).mono ?_⟩
  rintro e w1 ⟨rfl, hb⟩
  have HBU1 := Lib.hid (HBU.out.upd (Upd.of_below (F := fun _ => False) hb) (fun _ _ f => f))
  have HB1 := Lib.hid (HB0.out.trans (hb.mono HB0.out.size))
  have HM1 := Lib.hid (HM.out.below hb)
  clear hb
  gi_wp2
  refine ⟨trivial, (callsIn_wide.2 (bwriteS_any HBU1.out (Crc.le 4 F.length) (by simp [Crc.le_length]))).mono ?_⟩
  rintro e w2 ⟨rfl, fp2, hbu2, hu2, hs2⟩
  have hfp2 : ∀ k, fp2 k → w.heap.size ≤ k := fun k hk => by
    rcases hs2 k hk with h | h
    · rcases h with rfl | h
      · exact Nat.le_refl _
      · simp [Value.ownBlock] at h
    · exact Nat.le_trans HB1.out.size h
  have hB0fp : ∀ k, (k = w.heap.size ∨ (Value.slice none 0 0).ownBlock = some k) → k = w.heap.size := fun k hk => by
    rcases hk with h | h
    · exact h
    · simp [Value.ownBlock] at h
  have HB2 := Lib.hid (below_upd HB1.out hu2 (fun k hk => by rw [hB0fp k hk]; exact Nat.le_refl _) HB1.out.size)
  have HM2 := Lib.hid (HM1.out.upd hu2 (fun hk => by have := hB0fp m hk; omega))
  have HBU2 := Lib.hid hbu2; have HFP2 := Lib.hid hfp2
  clear HBU1 HB1 HM1 hbu2 hu2 hs2 hfp2 hB0fp HBU HB0 HM hlen0
  gi_wp2
  refine ⟨trivial, (callsIn_wide.2 (fsorted_any _ _)).mono ?_⟩
  rintro e w3 ⟨rfl, rfl⟩
  have hX0 : Boxed (w2.alloc (.cells #[.map (some m)] 65)) w2.heap.size 65 (.map (some m)) := Boxed.new w2 _ _
  have hbx : Below w2.heap.size w2 (w2.alloc (.cells #[.map (some m)] 65)) := (Below.refl _ _).alloc (Nat.le_refl _) _
  have hM0 := HM2.out.below hbx
  have hbu0 := HBU2.out.upd (Upd.of_below (F := fun _ => False) hbx) (fun _ _ f => f)
  have hb0 := HB2.out.trans (hbx.mono HB2.out.size)
  have hsz0 : (w2.alloc (.cells #[.map (some m)] 65)).heap.size = w2.heap.size + 1 := by rw [World.size_alloc]
  have hbB : w.heap.size < w2.heap.size := HBU2.out.lt _ HBU2.out.own
  obtain ⟨L, hL⟩ := ents_of F HG.out
  have hLL : L.length = F.length := by rw [← hL, List.length_map]
  generalize w2.alloc (.cells #[.map (some m)] 65) = W0 at *
  generalize w2.heap.size = Bx at *
  have hseq := fsorted_stops 5 (by omega) (BytesQ w.heap.size m Bx) (Bx + 1) Bx m F L hL W0 hX0.cell hM0 hlenF (by omega) (fun W k hk => by
      rcases hk with rfl | ⟨h1, h2, _⟩
      · omega
      · exact ⟨h1, h2⟩)
    (fun W W' g hW hW' hg hbl hq => by
      have h1 := hW.size
      rcases hq with rfl | ⟨_, _, h3⟩
      · omega
      · exact BlkOf.ne hbl h3 (by decide) rfl)
  have HSEQ := Lib.hid hseq; have HM0 := Lib.hid hM0; have HBU0 := Lib.hid hbu0; have HB0 := Lib.hid hb0
  clear hseq hM0 hbu0 hb0 hbx HM2 HBU2 HB2
  gi_wp2
  refine wpIn_rangeFunc_ownH (n := 6) rfl (by omega) (gf := 176) (lb := #[.pointer (some ⟨Bx, 0, none⟩)]) rfl trivial (enters_of Tryz.func176 (by kernel_rfl) rfl) HSEQ.out (fun h k => h.trans k)
    (fun W l o o' hl ho hc _ => Turns.putObj (by omega) ho hc (fun k hk => ?hputQ)) (Below.refl _ _) (fun _ => rfl)
    (fun pre W => (FilMap W m F ∧ Boxed W Bx 65 (.map (some m)) ∧ ∃ fp, BuiltAt W w.heap.size (Crc.le 4 F.length ++ (pre.map (·.1)).flatMap entryB) fp ∧ ∀ k, fp k → w.heap.size ≤ k) ∧ Below w.heap.size w W)
    (fun _ _ _ => False)
    (fun s A B row hs hg hr => ?hown)
    (fun _ _ _ _ _ hs _ _ => hs)
    ⟨⟨HM0.out, hX0, fp2, by rw [List.map_nil, List.flatMap_nil, List.append_nil]; exact HBU0.out, HFP2.out⟩, HB0.out⟩
    (fun x a' _ => a' = { tmps := #[.map (some m), undef, .string { data := #[] }, .pointer (some ⟨w.heap.size, 0, none⟩), .string (bs x.1.1), .string (bs x.1.2), .map (some m), .int .i64 (F.length : Int), .string (bs (Crc.le 4 F.length)), .tuple #[.int .i64 4, .nilIface], .map (some m), .func (.func 176) #[] #[.pointer (some ⟨Bx, 0, none⟩)], .string (bs x.1.1), .string (bs x.1.2), undef, undef, undef, undef, undef, undef, undef, undef, undef, undef, undef, undef, undef], defers := [] })
    (fun x a' _ X Y row hs hg hr => hs)
    ?assign ?body ?done ?stop
  case hputQ =>
    have hlt : l < W.heap.size := blk_lt ho
    by_cases e : k = l
    · exact .inl (.inr ⟨by omega, o, by rw [e]; exact ho, hc⟩)
    · refine .inl (.inl ?_)
      have hu := Upd.of_grownBy (F := fun k => k = l) (grownBy_putObj' W l o') (fun k e => by cases e; rfl)
      rcases hk with hk | ⟨h1, h2, h3⟩
      · exact .inl hk
      · refine .inr ⟨h1, h2, ?_⟩
        obtain ⟨cs, fr, h4⟩ := h3
        by_cases hk2 : k < W.heap.size
        · exact ⟨cs, fr, (hu.block k hk2 e).symm.trans h4⟩
        · exact absurd (blk_lt h4) (by rw [show (W.putObj l o').heap.size = W.heap.size by simp [World.putObj]]; exact hk2)
  case hown =>
    have hu := upd_noCells hg hr
    obtain ⟨⟨g1, g2, fp, g3, g4⟩, g5⟩ := hs
    refine ⟨⟨g1.upd hu (fun h => by have := g1.lt; omega), box_upd g2 hu (fun h => (box_blk g2).noCells h.2), fp, g3.upd hu (fun k hk h => ?_), g4⟩, below_upd g5 hu (fun i hi => by omega) g5.size⟩
    rcases g3.kind hk with rfl | hk
    · exact g3.blk.noCells h.2
    · exact hk.noCells h.2
  case assign =>
    rintro l pre x W K hI hK
    unfold encE
    gi_wp2
    exact hK _ _ ((KeepsOthers.refl _).from _) ⟨Upd.refl _ _, fun k hk => .inl (.inl hk)⟩ hI rfl
  case body =>
    rintro l pre x a' W hl ⟨r, hr⟩ ⟨⟨g1, g2, fp, g3, g4⟩, g5⟩ rfl hlt
    have HG1 := Lib.hid g1; have HG2 := Lib.hid g2; have HG3 := Lib.hid g3; have HG4 := Lib.hid g4; have HG5 := Lib.hid g5
    have h611 : 1 ≤ 6 - 1 - 1 := by omega
    obtain ⟨hx1, hx2⟩ := ent_len x
    have hpl := ents_len pre
    have hpl2 : pre.length ≤ 1000000 := by omega
    clear g1 g2 g3 g4 g5 hr
    gi_wp2
    refine ⟨trivial, (CallsIn.inRound l (callsIn_wide.2 (fnum_any x.1.1.length _ (by omega)))).mono ?_⟩
    rintro e w4 ⟨rfl, hb4⟩
    gi_wp2
    refine ⟨trivial, (CallsIn.inRound l (callsIn_wide.2 (fnum_any x.1.2.length _ (by omega)))).mono ?_⟩
    rintro e w5 ⟨rfl, hb5⟩
    have HB45 := Lib.hid (hb4.trans (hb5.mono hb4.size))
    clear hb4 hb5
    have HBU5 := Lib.hid (HG3.out.upd (Upd.of_below (F := fun _ => False) HB45.out) (fun _ _ f => f))
    gi_wp2
    refine ⟨trivial, (CallsIn.inRound l (callsIn_wide.2 (bwriteS_any HBU5.out (Crc.le 4 x.1.1.length ++ (x.1.1 ++ (Crc.le 4 x.1.2.length ++ x.1.2))) (by simp only [List.length_append, Crc.le_length]; omega)))).mono ?_⟩
    rintro e w6 ⟨rfl, fp6, hbu6, hu6, hs6⟩
    have HU6 := Lib.hid ((Upd.of_below (F := fp) HB45.out).trans hu6 (fun k hk => .inl hk))
    have HBU6 := Lib.hid hbu6; have HS6 := Lib.hid hs6
    clear hbu6 hu6 hs6
    gi_wp2
    have hkind : ∀ k, fp k → k = w.heap.size ∨ BlkOf W k 5 := fun k hk => HG3.out.kind hk
    have hfpQ : ∀ k, fp k → BytesQ w.heap.size m Bx W k := fun k hk => by
      rcases hkind k hk with h | h
      · exact .inl h
      · refine .inr ⟨fun e => ?_, fun e => ?_, h⟩
        · subst e; exact HG1.out.noBlk h
        · subst e; exact BlkOf.ne h (box_blk HG2.out) (by decide) rfl
    have hu : Upd (May (BytesQ w.heap.size m Bx) (Bx + 1) W) W w6 := HU6.out.mono (fun k hk => .inl (hfpQ k hk))
    refine ⟨keepsFrom_upd _ HU6.out (fun k hk h => ?_), Turns.of_kind hu (fun k hk he hq => ?_), ⟨HG1.out.upd HU6.out (fun hk => ?_), box_upd HG2.out HU6.out (fun hk => ?_), fp6, ?_, fun k hk => ?_⟩, below_upd HG5.out HU6.out (fun k hk => HG4.out k hk) HG5.out.size⟩
    · rcases hkind k hk with rfl | h2
      · exact HG3.out.blk.noCells h
      · exact h2.noCells h
    · rcases hq with rfl | ⟨h1, h2, cs, fr, h3⟩
      · exact .inl rfl
      · exact .inr ⟨h1, h2, cs, fr, he.symm.trans h3⟩
    · have := HG4.out m hk; omega
    · rcases hkind _ hk with h2 | h2
      · omega
      · exact BlkOf.ne h2 (box_blk HG2.out) (by decide) rfl
    · rw [List.map_append, List.flatMap_append, List.map_cons, List.map_nil, List.flatMap_cons, List.flatMap_nil, List.append_nil, ← List.append_assoc]
      exact HBU6.out
    · rcases HS6.out k hk with h | h
      · exact HG4.out k h
      · exact Nat.le_trans HG5.out.size (Nat.le_trans HB45.out.size h)
  case done =>
    rintro DD ys W hDD rfl ⟨⟨g1, g2, fp, g3, g4⟩, g5⟩ hK
    have HG3 := Lib.hid g3; have HG4 := Lib.hid g4; have HG5 := Lib.hid g5
    clear g1 g2 g3 g4 g5
    gi_wp2
    refine ⟨trivial, (callsIn_wide.2 (bstring_any HG3.out)).mono ?_⟩
    rintro e w6 ⟨rfl, hu6⟩
    gi_wp2
    have hK2 : w6.heap[DD]? = some (.deferred (some [])) := (hu6.block DD (blk_lt hK) (fun h => by
      rcases HG3.out.kind h with e | e
      · omega
      · exact e.noCells ⟨_, hK, rfl⟩)).trans hK
    refine ⟨by simp, .inl ⟨_, _, rfl, run_takeDeferred hK2, ?_⟩⟩
    have hu : Upd (fun k => k = DD) w6 (w6.putObj DD (.deferred none)) := Upd.of_grownBy (grownBy_putObj' w6 DD (.deferred none)) (fun k e => by cases e; rfl)
    have hb6 := below_upd HG5.out hu6 (fun k hk => HG4.out k hk) HG5.out.size
    exact ⟨_, (by simp [results, Tryz.results135, go_sem]; rfl), rfl, below_upd hb6 hu (fun k hk => by subst hk; omega) hb6.size⟩
  case stop =>
    rintro DD c pre W _ _ h _
    exact h.elim
end Go.Proofs.YtoaihngckcbhiaaGreatDoor
