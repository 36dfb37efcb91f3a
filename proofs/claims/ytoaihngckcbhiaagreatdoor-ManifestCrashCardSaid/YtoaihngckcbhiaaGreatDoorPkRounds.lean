/- Rounds -/
import Derived.Test.YtoaihngckcbhiaaGreatDoorPkBase
import Derived.OrdersIn
namespace Go.Proofs.YtoaihngckcbhiaaGreatDoor
section
variable {F : Fence} {n : Nat} {P : Program} {ops : Array Oper} {Q : Exit → Act → World → Prop} {md : Region.Mode}
structure ReadTo (a0 : Act) (d m : Nat) (vals : Array Value) (listed : Array Bool) (a : Act) : Prop where
  defers : a.defers = a0.defers
  size : a.tmps.size = a0.tmps.size
  out : ∀ s, (s < d ∨ d + m ≤ s) → a.tmps.getD s undef = a0.tmps.getD s undef
  got : ∀ j, j < m → listed.getD j false = true → a.tmps.getD (d + j) undef = vals.getD j undef
theorem getD_set' {α : Type} (xs : Array α) (i j : Nat) (v d : α) : (xs.setIfInBounds i v).getD j d = if i = j ∧ i < xs.size then v else xs.getD j d := by
  simp only [Array.getD_eq_getD_getElem?, Array.getElem?_setIfInBounds]
  by_cases h : i = j
  · subst h
    by_cases h2 : i < xs.size
    · simp [h2]
    · simp [h2]
  · simp [h]
theorem count_set (xs : Array Bool) (i : Nat) (hi : i < xs.size) (hf : xs.getD i true = false) : (xs.setIfInBounds i true).toList.count false + 1 = xs.toList.count false := by
  rw [Array.toList_setIfInBounds, List.count_set (by simpa using hi)]
  have h : xs.toList[i]'(by simpa using hi) = false := by
    rw [Array.getD_eq_getD_getElem?, Array.getElem?_eq_getElem hi] at hf
    simpa using hf
  have hp : 0 < xs.toList.count false := List.count_pos_iff.2 (by rw [← h]; exact List.getElem_mem _)
  rw [h]
  show xs.toList.count false - 1 + 0 + 1 = _
  omega
theorem least (p : Nat → Bool) : ∀ m, p m = false → ∃ j, p j = false ∧ ∀ i, i < j → p i = true := by
  intro m
  induction m using Nat.strongRecOn with
  | _ m ih =>
    intro h
    by_cases hx : ∃ i, i < m ∧ p i = false
    · obtain ⟨i, h1, h2⟩ := hx
      exact ih i h1 h2
    · exact ⟨m, h, fun i hi => by
        cases hp : p i with
        | true => rfl
        | false => exact absurd ⟨i, hi, hp⟩ hx⟩
def backB (md : Region.Mode) (ops : Array Oper) : Bool := (List.range ops.size).all fun j => match ops[j]? with | some o => o.after.all (fun e => !Region.binds md e || decide (e.on < j)) | none => true
def lastB (md : Region.Mode) (ops : Array Oper) (m : Nat) : Bool := (List.range m).all fun j => match ops[m]? with | some o => o.after.any (fun e => Region.binds md e && decide (e.on = j)) | none => true
theorem wpAnyIn_reads {a0 : Act} {W : World} {d m : Nat} {vals : Array Value} (hsize : ops.size = m + 1) (hd : d + m ≤ a0.tmps.size)
    (hops : ∀ j, j < m → ∃ o, ops[j]? = some o ∧ o.dst = some (d + j) ∧ o.guard = none)
    (hbackB : backB md ops = true) (hlastB : lastB md ops m = true)
    (hrun : ∀ j, j < m → ∀ o, ops[j]? = some o → ∀ a : Act, a.defers = a0.defers → (∀ s, (s < d ∨ d + m ≤ s) → a.tmps.getD s undef = a0.tmps.getD s undef) →
      (∀ e ∈ o.after, Region.binds md e = true → a.tmps.getD (d + e.on) undef = vals.getD e.on undef) → (∀ f, o.about P W a.eval = some f → F.fn f) ∧ (o.semAt F.round a.eval).run P W = .ok (.value (vals.getD j undef)) W)
    (hfin : ∀ a : Act, a.defers = a0.defers → a.tmps.size = a0.tmps.size → (∀ s, (s < d ∨ d + m ≤ s) → a.tmps.getD s undef = a0.tmps.getD s undef) → (∀ j, j < m → a.tmps.getD (d + j) undef = vals.getD j undef) → wpOpIn F n P ops Q m (fun a' w' => Q .normal a' w') a W) :
    wpAnyIn F n P md ops Q ops.size (Array.replicate ops.size false) a0 W := by
  have hback : ∀ j o, ops[j]? = some o → ∀ e ∈ o.after, Region.binds md e = true → e.on < j := by
    intro j o ho e he hb
    have hj := (Array.getElem?_eq_some_iff.1 ho).1
    have := List.all_eq_true.1 hbackB j (List.mem_range.2 hj)
    rw [ho] at this
    have h2 := (Array.all_eq_true_iff_forall_mem.1 this) e he
    simpa [hb] using h2
  have hlast : ∀ o, ops[m]? = some o → ∀ j, j < m → ∃ e ∈ o.after, Region.binds md e = true ∧ e.on = j := by
    intro o ho j hj
    have := List.all_eq_true.1 hlastB j (List.mem_range.2 hj)
    rw [ho] at this
    have h2 : o.after.any (fun e => Region.binds md e && decide (e.on = j)) = true := this
    rw [Array.any_eq_true] at h2
    obtain ⟨i, hi, h3⟩ := h2
    exact ⟨_, Array.getElem_mem hi, by simpa using h3⟩
  have main : ∀ (fuel : Nat) (listed : Array Bool) (a : Act), listed.size = m + 1 → listed.toList.count false = fuel → listed.getD m true = false → ReadTo a0 d m vals listed a → wpAnyIn F n P md ops Q fuel listed a W := by
    intro fuel
    induction fuel with
    | zero =>
      intro listed a hs hc hm _
      exfalso
      rw [List.count_eq_zero] at hc
      apply hc
      rw [Array.getD_eq_getD_getElem?, Array.getElem?_eq_getElem (by omega)] at hm
      have : listed[m]'(by omega) = false := by simpa using hm
      rw [← this]
      exact Array.mem_toList_iff.2 (Array.getElem_mem _)
    | succ fuel ih =>
      intro listed a hs hc hm hR
      -- something may come up
      have hex : ∃ i, i ∈ Region.ready md ops listed := by
        obtain ⟨j, hj, hmin⟩ := least (fun j => listed.getD j true) m hm
        have hjs : j < m + 1 := by
          rcases Nat.lt_or_ge j (m + 1) with h | h
          · exact h
          · rw [Array.getD_eq_getD_getElem?, Array.getElem?_eq_none (by omega)] at hj; simp at hj
        refine ⟨j, mem_ready.2 ⟨hj, ops[j]'(by omega), Array.getElem?_eq_getElem _, fun e he hb => ?_⟩⟩
        have hlt := hback j _ (Array.getElem?_eq_getElem (by omega)) e he hb
        have := hmin e.on hlt
        rw [Array.getD_eq_getD_getElem?, Array.getElem?_eq_getElem (by omega)] at this ⊢
        simpa using this
      refine ⟨fun h0 => by obtain ⟨i, hi⟩ := hex; rw [h0] at hi; exact (List.not_mem_nil hi).elim, fun i hi => ?_⟩
      obtain ⟨hun, o, ho, hall⟩ := mem_ready.1 hi
      have his : i < m + 1 := by
        have := (Array.getElem?_eq_some_iff.1 ho).1
        omega
      by_cases him : i < m
      · obtain ⟨o', ho', hdst, hg⟩ := hops i him
        obtain rfl : o' = o := by rw [ho] at ho'; exact (Option.some.inj ho').symm
        have hlo : ∀ j, j < m → listed.getD j false = true → a.tmps.getD (d + j) undef = vals.getD j undef := hR.got
        obtain ⟨hab, hrn⟩ := hrun i him o' ho a hR.defers hR.out (fun e he hb => by
          have h1 := hall e he hb
          have h2 := hback i o' ho e he hb
          exact hlo e.on (by omega) h1)
        unfold wpOpIn
        simp only [ho]
        rw [if_pos (by simp [Region.wanted, hg])]
        refine ⟨hab, ?_⟩
        rw [hrn]
        simp only [Oper.uponIn]
        have hc' := count_set listed i (by omega) hun
        refine ih _ _ (by rw [Array.size_setIfInBounds]; exact hs) (by omega) ?_ ?_
        · rw [getD_set', if_neg (by omega)]; exact hm
        · rw [hdst]
          refine ⟨hR.defers, ?_, ?_, ?_⟩
          · simp only [Act.put, Array.size_setIfInBounds]; exact hR.size
          · intro s hsx
            simp only [Act.put]
            rw [getD_set', if_neg (by omega)]
            exact hR.out s hsx
          · intro j hj hl
            simp only [Act.put]
            rw [getD_set'] at hl ⊢
            by_cases hij : i = j
            · subst hij
              rw [if_pos ⟨rfl, by rw [hR.size]; omega⟩]
            · rw [if_neg (by omega)]
              rw [if_neg (by omega)] at hl
              exact hR.got j hj hl
      · obtain rfl : i = m := by omega
        have hallL : ∀ j, j < i → listed.getD j false = true := fun j hj => by
          obtain ⟨e, he, hb, rfl⟩ := hlast o ho j hj
          exact hall e he hb
        refine wpOpIn_mono ?_ (hfin a hR.defers hR.size hR.out (fun j hj => hR.got j hj (hallL j hj)))
        intro a' w' hq
        have hc' := count_set listed i (by omega) hun
        have hnone : Region.ready md ops (listed.setIfInBounds i true) = [] := by
          rw [List.eq_nil_iff_forall_not_mem]
          intro j hj
          obtain ⟨hju, oj, hoj, _⟩ := mem_ready.1 hj
          have hjs := (Array.getElem?_eq_some_iff.1 hoj).1
          rw [getD_set'] at hju
          by_cases hij : i = j
          · rw [if_pos ⟨hij, by omega⟩] at hju; cases hju
          · rw [if_neg (by omega)] at hju
            have := hallL j (by omega)
            rw [Array.getD_eq_getD_getElem?, Array.getElem?_eq_getElem (by omega)] at this hju
            simp at this hju
            rw [this] at hju; cases hju
        cases fuel with
        | zero => exact ⟨hnone, hq⟩
        | succ fuel => exact ⟨fun _ => hq, fun j hj => by rw [hnone] at hj; cases hj⟩
  refine main ops.size _ a0 (by simp [hsize]) (by simp) ?_ ⟨rfl, rfl, fun _ _ => rfl, fun j hj hl => ?_⟩
  · rw [Array.getD_eq_getD_getElem?, Array.getElem?_replicate, if_pos (by omega)]; rfl
  · rw [Array.getD_eq_getD_getElem?, Array.getElem?_replicate, if_pos (by omega)] at hl; cases hl
end
end Go.Proofs.YtoaihngckcbhiaaGreatDoor
