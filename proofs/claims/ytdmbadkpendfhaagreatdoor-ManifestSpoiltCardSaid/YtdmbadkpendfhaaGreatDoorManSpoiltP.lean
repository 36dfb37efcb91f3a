/- ManifestSpoilt: what the calls come to: plain mathematics. -/
import Derived.Test.YtdmbadkpendfhaaGreatDoorManD
namespace Go.Proofs.YtdmbadkpendfhaaGreatDoor.Man
open Wal Fil
theorem val_byte (l : T) (j : Nat) (hj : j < l.length) (b : UInt8) (c : Nat) (hb : b.toNat = (l[j]).toNat ^^^ c) : Crc.val (l.set j b) = Crc.val l ^^^ (2 ^ (8 * j) * c) := by
  induction l generalizing j with
  | nil => simp at hj
  | cons a l ih =>
    cases j with
    | zero =>
      simp only [List.set_cons_zero, Crc.val_cons_xor]
      simp only [List.getElem_cons_zero] at hb
      rw [hb, Nat.mul_zero, Nat.pow_zero, Nat.one_mul, Nat.xor_assoc, Nat.xor_assoc, Nat.xor_comm c]
    | succ j =>
      simp only [List.set_cons_succ, Crc.val_cons_xor]
      simp only [List.getElem_cons_succ] at hb
      rw [ih j (by simpa using hj) hb, Nat.xor_assoc, ← Crc.mul256_xor, ← Nat.mul_assoc, show 256 * 2 ^ (8 * j) = 2 ^ (8 * (j + 1)) by rw [show 8 * (j + 1) = 8 + 8 * j by omega, Nat.pow_add]]
/-- Whoever spoils a byte of what was sealed is found out. -/
theorem spoilt_open {d : T} (hd : ∃ x, d = Crc.sealT x) {j : Nat} (hj : j < d.length) {c : UInt8} (hc : c ≠ 0) : Crc.openT (d.set j (d[j] ^^^ c)) = ([], 7) := by
  obtain ⟨x, rfl⟩ := hd
  have hcn : c.toNat ≠ 0 := fun e => hc (by rw [← UInt8.toNat_inj, e]; rfl)
  have hcl : c.toNat < 256 := c.toNat_lt
  refine Crc.turned_open x _ (by simp) (8 * j) c.toNat (by omega) hcn (by omega) ?_
  rw [val_byte _ j hj _ c.toNat (by rw [UInt8.toNat_xor]), Nat.mod_eq_of_lt (by omega)]
theorem Pub.sealed {A : M} {S : T} {l : List T} (h : Pub A S l) {v : Nat} {job : T} {k : List T} (hu : unpackT S = some (v, job, k)) {p : T × T} (hp : p ∈ A) : ∃ x, p.2 = Crc.sealT x := by
  rcases (h.mem p).1 hp with rfl | ⟨i, _, rfl⟩
  · refine ⟨(Crc.openT S).1, (Crc.openT_ok ?_).symm⟩
    unfold unpackT at hu
    by_cases hc : (Crc.openT S).2 ≠ 0 ∨ (Crc.openT S).1.length < 8
    · rw [if_pos hc] at hu; cases hu
    · exact Classical.byContradiction fun e => hc (.inl e)
  · exact ⟨_, rfl⟩
theorem put_same {A : M} (hA : Up A) {k v : T} (h : Fil.get A k = some v) : Fil.put k v A = A := by
  refine up_ext (hA.put k v) hA fun p => ?_
  rw [mem_put hA]
  constructor
  · rintro (rfl | ⟨h1, _⟩)
    · exact get_some h
    · exact h1
  · intro hp
    by_cases e : p.1 = k
    · have h2 := get_mem hA (k := p.1) (v := p.2) hp
      rw [e, h] at h2
      exact .inl (Prod.ext e (Option.some.inj h2).symm)
    · exact .inr ⟨hp, e⟩
theorem used_over {A : M} (hA : Up A) {k v x : T} (h : Fil.get A k = some v) (hl : x.length = v.length) : used (Fil.put k x A) = used A := by
  have h1 := perm_used (put_perm hA k x)
  have h2 := perm_used (put_perm hA k v)
  rw [put_same hA h] at h2
  rw [h1, h2]
  simp [used, cost, hl]
theorem outs_bad {A : M} : ∀ (l : List T) (k i : Nat), i < l.length → (∀ d, Fil.get A (outT (k + i)) = some d → (Crc.openT d).2 ≠ 0) → outsT A k l = none
  | [], k, i, hi, _ => by simp at hi
  | s :: l, k, i, hi, h => by
    unfold outsT
    cases hg : Fil.get A (outT k) with
    | none => rfl
    | some d =>
      simp only
      cases i with
      | zero =>
        rw [if_neg (fun e => h d (by rw [Nat.add_zero]; exact hg) e.1)]
      | succ i =>
        have h1 := outs_bad l (k + 1) i (by simpa using hi) (fun d hd => h d (by rw [show k + (i + 1) = k + 1 + i by omega]; exact hd))
        rw [h1]
        split <;> rfl
/-- A byte of one of the files is spoilt: it is found out; then anything is published. -/
theorem spoilt_plain {A : M} {S : T} {l : List T} (h : Pub A S l) (hl : l.length ≤ 16) (hg : Fil.Good A) (hus : used A ≤ roomN 200) {v : Nat} {job : T} (hu : unpackT S = some (v, job, l.map Sha.shaS)) {k d : T} (hp : (k, d) ∈ A) {j : Nat} (hj : j < d.length) {c : UInt8} (hc : c ≠ 0) {again : T} (ha : again.length ≤ 64) :
    ∃ A2 A3, codeC 200 A [⟨k, d.set j (d[j] ^^^ c), false⟩] = 0 ∧ nextC 200 A [⟨k, d.set j (d[j] ^^^ c), false⟩] = A2 ∧ latestT A2 = (none, 50) ∧ pubT 200 A2 0 again [] = (0, A3) ∧ latestT A3 = (some (0, again, []), 0) ∧ A3.length = 1 := by
  obtain ⟨d', hd'⟩ : ∃ d', d.set j (d[j] ^^^ c) = d' := ⟨_, rfl⟩
  have hbad := spoilt_open (h.sealed hu hp) hj hc
  have hlen : d'.length = d.length := by rw [← hd']; simp
  have hbad2 : (Crc.openT d').2 ≠ 0 := by rw [← hd']; rw [hbad]; decide
  rw [hd']
  have hget := get_mem h.up hp
  have hmay : [(⟨k, d', false⟩ : Chg)].all Chg.may = true := by
    have h1 := hg _ hp
    unfold mayB at h1
    have h2 := of_decide_eq_true h1
    simp only [List.all_cons, List.all_nil, Bool.and_true, Chg.may, mayB, Bool.not_false, Bool.true_or, decide_eq_true_eq]
    exact ⟨h2.1, h2.2.1, by rw [hlen]; exact h2.2.2⟩
  have hmade : made A [⟨k, d', false⟩] = Fil.put k d' A := rfl
  have hup2 := h.up.put k d'
  have ho2 : Ours (Fil.put k d' A) := fun p hp2 => by
    rcases (mem_put h.up).1 hp2 with rfl | ⟨h1, _⟩
    · exact h.ours hl (k, d) hp
    · exact h.ours hl _ h1
  have hlat : latestT (Fil.put k d' A) = (none, 50) := by
    rcases (h.mem _).1 hp with e | ⟨i, hi, e⟩
    · injection e with e1 e2
      unfold latestT
      have hun : unpackT d' = none := by unfold unpackT; rw [if_pos (.inl hbad2)]
      simp only [get_put h.up, if_pos e1.symm, hun]
    · injection e with e1 e2
      unfold latestT
      have hm : Fil.get (Fil.put k d' A) manT = some S := by rw [get_put h.up, if_neg (by rw [e1]; exact (outT_ne (i := i) (by omega)).1.symm), h.man]
      have ho : outsT (Fil.put k d' A) 0 (l.map Sha.shaS) = none := outs_bad _ 0 i (by rw [List.length_map]; exact hi) (fun x hx => by
        rw [Nat.zero_add, get_put h.up, if_pos e1.symm] at hx
        cases hx
        exact hbad2)
      simp only [hm, hu, List.length_map]
      rw [if_neg (by omega), ho]
      rfl
  have hold : oldT (Fil.put k d' A) 0 = false := by unfold oldT; rw [hlat]
  obtain ⟨p1, S3, p2, p3, _⟩ := publish_nil (n := 200) (v := 0) (job := again) hup2 ho2 (by omega) ha hold (by rw [room200]; omega)
  obtain ⟨A3, hA3⟩ : ∃ A3, (pubT 200 (Fil.put k d' A) 0 again []).2 = A3 := ⟨_, rfl⟩
  rw [hA3] at p2
  have hpt : pubT 200 (Fil.put k d' A) 0 again [] = (0, A3) := Prod.ext p1 hA3
  rcases must_gone (n := 200) (A := A) hmay with ⟨g1, g2, _⟩ | ⟨_, g2⟩
  · rw [hmade] at g2
    exact ⟨_, A3, g1, g2, hlat, hpt, p2.latest (by simp) p3, p2.length (by simp)⟩
  · rw [hmade, used_over h.up hget hlen] at g2
    omega
/-- What there is if a publication was answered OK, where there was nothing. -/
theorem publish_zero {v : Nat} {job : T} {l : List T} (hv : v < 18446744073709551616) (h : (pubT 200 [] v job l).1 = 0) : l.length ≤ 16 ∧ (∀ s ∈ l, s.length ≤ 65531) ∧ ∃ S, Pub (pubT 200 [] v job l).2 S l ∧ unpackT S = some (v, job, l.map Sha.shaS) := by
  by_cases hlong : ∃ s ∈ l, 65531 < s.length
  · unfold pubT at h
    rw [if_pos hlong] at h
    cases h
  · have hs : ∀ s ∈ l, s.length ≤ 65531 := fun s hs => Nat.le_of_not_lt fun e => hlong ⟨s, hs, e⟩
    by_cases hpk : (packT v job (l.map Sha.shaS)).2 ≠ 0 ∨ 16 < l.length
    · unfold pubT at h
      rw [if_neg hlong, if_pos hpk] at h
      cases h
    · have hp : (packT v job (l.map Sha.shaS)).2 = 0 := Classical.byContradiction fun e => hpk (.inl e)
      have hl : l.length ≤ 16 := by omega
      have hj : job.length ≤ 64 := Nat.le_of_not_lt fun e => by rw [packT_long e] at hp; cases hp
      rcases publish_fits (n := 200) Up.nil ours_nil hv hj hl hs (old_none rfl v) with ⟨_, S, p2, p3, _⟩ | ⟨e, _⟩
      · exact ⟨hl, hs, S, p2, p3⟩
      · rw [h] at e; cases e
def againT : T := [97, 103, 97, 105, 110]
end Go.Proofs.YtdmbadkpendfhaaGreatDoor.Man
