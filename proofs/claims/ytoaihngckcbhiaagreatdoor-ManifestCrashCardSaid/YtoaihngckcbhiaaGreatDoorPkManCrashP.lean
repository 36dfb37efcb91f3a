/- ManCrashP -/
import Derived.Test.YtoaihngckcbhiaaGreatDoorPkManD
namespace Go.Proofs.YtoaihngckcbhiaaGreatDoor.Man
open Wal Fil
abbrev Mf := Option (Nat × T × List T)
def InP (p : Mf) (q : T × T) : Prop := match p with
  | none => False
  | some (v, job, outs) => q = (manT, (packT v job (outs.map Sha.shaS)).1) ∨ ∃ k, k < outs.length ∧ q = (outT k, Crc.sealT (outs.getD k []))
def InU (u : Mf) (q : T × T) : Prop := match u with
  | none => False
  | some (v, job, l) => q = (underT, (packT v job l).1)
def FineP (p : Mf) : Prop := match p with
  | none => True
  | some (v, job, outs) => v < 18446744073709551616 ∧ outs.length ≤ 16 ∧ job.length ≤ 64 ∧ ∀ s ∈ outs, s.length ≤ 65531
def FineU (u : Mf) : Prop := match u with
  | none => True
  | some (v, job, l) => v < 18446744073709551616 ∧ (packT v job l).2 = 0 ∧ job.length ≤ 64 ∧ l.length ≤ 1000 ∧ Ups l
structure Canon (A : M) (p u : Mf) : Prop where
  up : Up A
  mem : ∀ q, q ∈ A ↔ InP p q ∨ InU u q
  fp : FineP p
  fu : FineU u
theorem Canon.ext {A B : M} {p u : Mf} (h : Canon A p u) (k : Canon B p u) : A = B := up_ext h.up k.up fun q => (h.mem q).trans (k.mem q).symm
theorem Canon.nil : Canon [] none none := ⟨Up.nil, fun q => by simp [InP, InU], trivial, trivial⟩
theorem inP_name {p : Mf} (hp : FineP p) {q : T × T} (h : InP p q) : q.1 ≠ underT ∧ OurN q.1 := by
  cases p with
  | none => exact h.elim
  | some x =>
    obtain ⟨v, job, outs⟩ := x
    rcases h with rfl | ⟨k, hk, rfl⟩
    · exact ⟨man_ne_under, .inl rfl⟩
    · have : outs.length ≤ 16 := hp.2.1
      exact ⟨(outT_ne (i := k) (by omega)).2.1, .inr (.inr ⟨k, by omega, rfl⟩)⟩
theorem inU_name {u : Mf} {q : T × T} (h : InU u q) : q.1 = underT := by
  cases u with
  | none => exact h.elim
  | some x => exact congrArg Prod.fst h
theorem Canon.ours {A : M} {p u : Mf} (h : Canon A p u) : Ours A := fun q hq => by
  rcases (h.mem q).1 hq with h1 | h1
  · exact (inP_name h.fp h1).2
  · exact .inr (.inl (inU_name h1))
theorem Canon.now {A : M} {p u : Mf} (h : Canon A p u) : nowT A = (u, 0) := by
  cases u with
  | none =>
    have hg : Fil.get A underT = none := get_none.2 fun q hq e => by
      rcases (h.mem q).1 hq with h1 | h1
      · exact (inP_name h.fp h1).1 e
      · exact h1
    unfold nowT
    rw [hg]
  | some x =>
    obtain ⟨v, job, l⟩ := x
    obtain ⟨f1, f2, f3, f4, f5⟩ := h.fu
    have hg : Fil.get A underT = some (packT v job l).1 := get_mem h.up ((h.mem _).2 (.inr rfl))
    unfold nowT
    simp only [hg, unpack_pack f2 f1]
    rw [if_neg (fun e => e.elim (by omega) (fun e => e (riseT_of_up f5).symm))]
theorem Canon.latest {A : M} {p u : Mf} (h : Canon A p u) : latestT A = (p, 0) := by
  cases p with
  | none =>
    have hg : Fil.get A manT = none := get_none.2 fun q hq e => by
      rcases (h.mem q).1 hq with h1 | h1
      · exact h1
      · exact man_ne_under (e.symm.trans (inU_name h1))
    unfold latestT
    rw [hg]
  | some x =>
    obtain ⟨v, job, outs⟩ := x
    obtain ⟨f1, f2, f3, _⟩ := h.fp
    have hg : Fil.get A manT = some (packT v job (outs.map Sha.shaS)).1 := get_mem h.up ((h.mem _).2 (.inl (.inl rfl)))
    have ho := outs_all (A := A) outs (fun k hk => get_mem h.up ((h.mem _).2 (.inl (.inr ⟨k, hk, rfl⟩)))) outs.length (Nat.le_refl _)
    rw [Nat.sub_self, List.drop_zero] at ho
    unfold latestT
    simp only [hg, unpack_pack (pack_sums f3 f2).1 f1, List.length_map]
    rw [if_neg (by omega), ho]
    rfl
def oldP (p : Mf) (x : Nat) : Bool := match p with
  | some (v, _, _) => decide (x ≤ v)
  | none => false
theorem Canon.old {A : M} {p u : Mf} (h : Canon A p u) (x : Nat) : oldT A x = oldP p x := by
  unfold oldT oldP
  rw [h.latest]
  cases p <;> rfl
theorem Canon.inj {A B : M} {p u p' u' : Mf} (h : Canon A p u) (k : Canon B p' u') (e : A = B) : p = p' ∧ u = u' := by
  subst e
  have h1 := h.latest; have h2 := h.now
  rw [k.latest] at h1
  rw [k.now] at h2
  injection h1 with h1 _
  injection h2 with h2 _
  exact ⟨h1.symm, h2.symm⟩
theorem canon_pub {A : M} {S : T} {v : Nat} {job : T} {outs : List T} (h : Pub A S outs) (hS : S = (packT v job (outs.map Sha.shaS)).1) (hf : FineP (some (v, job, outs))) : Canon A (some (v, job, outs)) none := by
  subst hS
  refine ⟨h.up, fun q => (h.mem q).trans ?_, hf, trivial⟩
  simp [InP, InU]
theorem Canon.put {A : M} {p u : Mf} (h : Canon A p u) {v : Nat} {job : T} {l : List T} (hf : FineU (some (v, job, l))) : Canon (Fil.put underT (packT v job l).1 A) p (some (v, job, l)) := by
  refine ⟨h.up.put _ _, fun q => ?_, h.fp, hf⟩
  rw [mem_put h.up, h.mem q]
  constructor
  · rintro (e | ⟨e | e, hn⟩)
    · exact .inr e
    · exact .inl e
    · exact absurd (inU_name e) hn
  · rintro (e | e)
    · exact .inr ⟨.inl e, (inP_name h.fp e).1⟩
    · exact .inl e
theorem Canon.publish {A : M} {p u : Mf} (h : Canon A p u) (n : Nat) {v : Nat} (hv : v < 18446744073709551616) (job : T) (outs : List T) :
    ((pubT n A v job outs).1 ≠ 0 ∧ (pubT n A v job outs).2 = A) ∨ ((pubT n A v job outs).1 = 0 ∧ Canon (pubT n A v job outs).2 (some (v, job, outs)) none ∧ oldT A v = false) := by
  by_cases h1 : ∃ s ∈ outs, 65531 < s.length
  · left
    unfold pubT
    rw [if_pos h1]
    exact ⟨(show (5 : Int) ≠ 0 by decide), rfl⟩
  · by_cases h2 : (packT v job (outs.map Sha.shaS)).2 ≠ 0 ∨ 16 < outs.length
    · left
      unfold pubT
      rw [if_neg h1, if_pos h2]
      exact ⟨(show (5 : Int) ≠ 0 by decide), rfl⟩
    · cases h3 : oldT A v with
      | true =>
        left
        unfold pubT
        rw [if_neg h1, if_neg h2, if_pos h3]
        exact ⟨(show (2 : Int) ≠ 0 by decide), rfl⟩
      | false =>
        have hl : outs.length ≤ 16 := by omega
        have hs : ∀ s ∈ outs, s.length ≤ 65531 := fun s hs => Nat.not_lt.1 fun e => h1 ⟨s, hs, e⟩
        have hj : job.length ≤ 64 := Nat.not_lt.1 fun e => h2 (.inl (by rw [packT_long e]; decide))
        obtain ⟨hp, hSl⟩ := pack_sums (v := v) hj hl
        have hb : pubT n A v job outs = (codeC n A (pubC (packT v job (outs.map Sha.shaS)).1 outs outs.length (16 - outs.length)), nextC n A (pubC (packT v job (outs.map Sha.shaS)).1 outs outs.length (16 - outs.length))) := by
          unfold pubT
          rw [if_neg h1, if_neg h2, if_neg (by rw [h3]; simp)]
        rcases must_gone (n := n) (A := A) (pubC_may (S := (packT v job (outs.map Sha.shaS)).1) (by omega) hl hs) with ⟨g1, g2, _⟩ | ⟨g1, g2⟩
        · right
          rw [hb, g1, g2]
          exact ⟨rfl, canon_pub (pub_made h.up h.ours hl) rfl ⟨hv, hl, hj, hs⟩, rfl⟩
        · left
          rw [hb]
          refine ⟨(show codeC n A _ ≠ 0 by rw [g1]; decide), nextC_not (by rw [g1]; decide)⟩
theorem codeC_under {n : Nat} {A : M} {S : T} (hS : S.length ≤ 65535) : (codeC n A [⟨underT, S, false⟩] = 0 ∧ nextC n A [⟨underT, S, false⟩] = Fil.put underT S A) ∨ (codeC n A [⟨underT, S, false⟩] ≠ 0 ∧ nextC n A [⟨underT, S, false⟩] = A) := by
  rcases must_gone (n := n) (A := A) (may_under hS) with ⟨g1, g2, _⟩ | ⟨g1, _⟩
  · exact .inl ⟨g1, g2⟩
  · exact .inr ⟨by rw [g1]; decide, nextC_not (by rw [g1]; decide)⟩
theorem Canon.begin {A : M} {p u : Mf} (h : Canon A p u) (n : Nat) {v : Nat} (hv : v < 18446744073709551616) (job : T) :
    ((beginT n A v job).2.1 ≠ 0 ∧ (beginT n A v job).2.2 = A) ∨ ((beginT n A v job).2.1 = 0 ∧ ∃ l, (beginT n A v job).1 = (job, v, l) ∧ Canon (beginT n A v job).2.2 p (some (v, job, l))) := by
  by_cases hp : (packT v job []).2 = 0
  · have hj : job.length ≤ 64 := Nat.not_lt.1 fun e => by rw [packT_long e] at hp; cases hp
    have hS := packT_len hp
    have hnew : ((if oldT A v then (([], 0, []), 2, A) else if codeC n A [⟨underT, (packT v job []).1, false⟩] ≠ 0 then (([], 0, []), codeC n A [⟨underT, (packT v job []).1, false⟩], A) else ((job, v, []), 0, nextC n A [⟨underT, (packT v job []).1, false⟩]) : (T × Nat × List T) × Int × M)) = beginT n A v job →
        ((beginT n A v job).2.1 ≠ 0 ∧ (beginT n A v job).2.2 = A) ∨ ((beginT n A v job).2.1 = 0 ∧ ∃ l, (beginT n A v job).1 = (job, v, l) ∧ Canon (beginT n A v job).2.2 p (some (v, job, l))) := by
      intro e
      rw [← e]
      cases oldT A v with
      | true => exact .inl ⟨(show (2 : Int) ≠ 0 by decide), rfl⟩
      | false =>
        rw [if_neg (by simp)]
        rcases codeC_under (n := n) (A := A) hS with ⟨g1, g2⟩ | ⟨g1, g2⟩
        · rw [g1, g2, if_neg (by simp)]
          exact .inr ⟨rfl, [], rfl, h.put ⟨hv, hp, hj, by simp, List.Pairwise.nil⟩⟩
        · rw [if_pos g1]
          exact .inl ⟨g1, rfl⟩
    cases u with
    | none =>
      refine hnew ?_
      symm
      unfold beginT
      rw [if_neg (show ¬ ((packT v job []).2 ≠ 0) by rw [hp]; simp), h.now]
    | some x =>
      obtain ⟨x, j, l⟩ := x
      by_cases he : x = v ∧ j = job
      · have e : beginT n A v job = ((job, v, l), 0, A) := by
          unfold beginT
          rw [if_neg (show ¬ ((packT v job []).2 ≠ 0) by rw [hp]; simp), h.now]
          simp only
          rw [if_pos he]
        rw [e]
        obtain ⟨h1, h2⟩ := he
        subst h1 h2
        exact .inr ⟨rfl, l, rfl, h⟩
      · refine hnew ?_
        unfold beginT
        rw [if_neg (show ¬ ((packT v job []).2 ≠ 0) by rw [hp]; simp), h.now]
        simp only
        rw [if_neg he]
  · left
    unfold beginT
    rw [if_pos hp]
    exact ⟨hp, rfl⟩
def doneR (n : Nat) (A : M) (k : List T) : Int × M := match nowT A with
  | (none, c) => (if c ≠ 0 then c else 3, A)
  | (some (v, job, l), _) =>
    if 1000 < (riseT (l ++ k)).length then (4, A)
    else if (packT v job (riseT (l ++ k))).2 ≠ 0 then ((packT v job (riseT (l ++ k))).2, A)
    else (codeC n A [⟨underT, (packT v job (riseT (l ++ k))).1, false⟩], nextC n A [⟨underT, (packT v job (riseT (l ++ k))).1, false⟩])
theorem Canon.put_same {A : M} {p : Mf} {v : Nat} {job : T} {l : List T} (h : Canon A p (some (v, job, l))) : Fil.put underT (packT v job l).1 A = A := (h.put h.fu).ext h
theorem Canon.doneR {A : M} {p u : Mf} (h : Canon A p u) {n : Nat} (hr : used A ≤ roomN n) (k : List T) : doneR n A k = doneT n A k := by
  unfold Man.doneR doneT
  rw [h.now]
  cases u with
  | none => rfl
  | some x =>
    obtain ⟨v, job, l⟩ := x
    obtain ⟨f1, f2, f3, f4, f5⟩ := h.fu
    simp only
    by_cases h1 : 1000 < (riseT (l ++ k)).length
    · rw [if_pos h1, if_pos h1]
    · rw [if_neg h1, if_neg h1]
      by_cases h2 : (packT v job (riseT (l ++ k))).2 ≠ 0
      · rw [if_pos h2, if_pos (.inl h2)]
      · rw [if_neg h2]
        by_cases h3 : (riseT (l ++ k)).length = l.length
        · rw [if_pos (.inr h3)]
          have e : riseT (l ++ k) = l := (ups_sub f5 (riseT_up _) (fun x hx => (riseT_mem _ _).2 (List.mem_append.2 (.inl hx))) (by omega)).symm
          rw [e, f2]
          have hS := packT_len f2
          have hm : made A [⟨underT, (packT v job l).1, false⟩] = A := h.put_same
          have hc : codeC n A [⟨underT, (packT v job l).1, false⟩] = 0 := by
            unfold codeC
            rw [if_neg (by rw [may_under hS]; simp), if_neg (by rw [hm]; omega)]
          rw [hc]
          rcases codeC_under (n := n) (A := A) hS with ⟨_, g2⟩ | ⟨_, g2⟩
          · rw [g2, h.put_same]
          · rw [g2]
        · rw [if_neg (fun e => e.elim h2 h3)]
theorem Canon.done {A : M} {p u : Mf} (h : Canon A p u) (n : Nat) (k : List T) : (doneT n A k).2 = A ∨ ((doneT n A k).1 = 0 ∧ ∃ u', Canon (doneT n A k).2 p u') := by
  unfold doneT
  rw [h.now]
  cases u with
  | none => exact .inl rfl
  | some x =>
    obtain ⟨v, job, l⟩ := x
    obtain ⟨f1, f2, f3, f4, f5⟩ := h.fu
    simp only
    by_cases h1 : 1000 < (riseT (l ++ k)).length
    · rw [if_pos h1]; exact .inl rfl
    · rw [if_neg h1]
      by_cases h2 : (packT v job (riseT (l ++ k))).2 ≠ 0 ∨ (riseT (l ++ k)).length = l.length
      · rw [if_pos h2]; exact .inl rfl
      · rw [if_neg h2]
        have hp : (packT v job (riseT (l ++ k))).2 = 0 := Decidable.byContradiction fun e => h2 (.inl e)
        rcases codeC_under (n := n) (A := A) (packT_len hp) with ⟨g1, g2⟩ | ⟨_, g2⟩
        · rw [g1, g2]
          exact .inr ⟨rfl, _, h.put ⟨f1, hp, f3, by omega, riseT_up _⟩⟩
        · exact .inl g2
def Lasts (last : Nat) (p : Mf) : Prop := match p with
  | none => last = 0
  | some (v, _, _) => last ≤ v
theorem Lasts.pub {last : Nat} {A : M} {p u : Mf} (h : Lasts last p) (hc : Canon A p u) {v : Nat} (ho : oldT A v = false) (job : T) (outs : List T) : Lasts last (some (v, job, outs)) := by
  rw [hc.old] at ho
  cases p with
  | none => have e : last = 0 := h; show last ≤ v; omega
  | some x =>
    obtain ⟨x, j, o⟩ := x
    have e : last ≤ x := h
    have := of_decide_eq_false ho
    show last ≤ v
    omega
end Go.Proofs.YtoaihngckcbhiaaGreatDoor.Man
