/- FilLaw -/
import Derived.Test.YtoaihngckcbhiaaGreatDoorPkWalLaw2
namespace Go.Proofs.YtoaihngckcbhiaaGreatDoor.Fil
open Crc (le val sealT)
open Wal (pad)
abbrev T := List UInt8
theorem lt_irr (a : T) : ¬ a < a := List.lt_irrefl a
theorem lt_tr {a b c : T} (h : a < b) (k : b < c) : a < c := List.lt_trans h k
theorem lt_tri (a b : T) : a < b ∨ a = b ∨ b < a := by
  by_cases h1 : a < b
  · exact .inl h1
  · by_cases h2 : b < a
    · exact .inr (.inr h2)
    · exact .inr (.inl (List.le_antisymm (List.not_lt.1 h2) (List.not_lt.1 h1)))
theorem lt_ne {a b : T} (h : a < b) : a ≠ b := fun e => lt_irr b (by rwa [e] at h)
theorem lt_asym {a b : T} (h : a < b) : ¬ b < a := fun k => lt_irr _ (lt_tr h k)
abbrev M := List (T × T)
def Up (F : M) : Prop := F.Pairwise (fun a b => a.1 < b.1)
def get (F : M) (k : T) : Option T := (F.find? (fun p => p.1 == k)).map (·.2)
def del (k : T) (F : M) : M := F.filter (fun p => !(p.1 == k))
def put (k v : T) (F : M) : M := F.filter (fun p => decide (p.1 < k)) ++ (k, v) :: F.filter (fun p => decide (k < p.1))
theorem Up.nil : Up [] := List.Pairwise.nil
theorem Up.nodup {F : M} (h : Up F) : (F.map (·.1)).Nodup := by
  rw [List.nodup_iff_pairwise_ne]
  exact List.pairwise_map.2 (h.imp fun h => lt_ne h)
theorem Up.del {F : M} (h : Up F) (k : T) : Up (del k F) := h.filter _
theorem Up.put {F : M} (h : Up F) (k v : T) : Up (put k v F) := by
  unfold Fil.put
  refine List.pairwise_append.2 ⟨h.filter _, List.pairwise_cons.2 ⟨fun b hb => ?_, h.filter _⟩, fun a ha b hb => ?_⟩
  · simpa using (List.mem_filter.1 hb).2
  · have h1 : a.1 < k := by simpa using (List.mem_filter.1 ha).2
    rcases List.mem_cons.1 hb with rfl | hb
    · exact h1
    · exact lt_tr h1 (by simpa using (List.mem_filter.1 hb).2)
theorem filter_none {F : M} {p : T × T → Bool} (h : ∀ x ∈ F, p x = false) : F.filter p = [] := List.filter_eq_nil_iff.2 fun x hx => by rw [h x hx]; simp
theorem filter_all {F : M} {p : T × T → Bool} (h : ∀ x ∈ F, p x = true) : F.filter p = F := List.filter_eq_self.2 h
theorem del_split {F : M} (h : Up F) (k : T) : del k F = F.filter (fun p => decide (p.1 < k)) ++ F.filter (fun p => decide (k < p.1)) := by
  induction F with
  | nil => rfl
  | cons p F ih =>
    obtain ⟨h1, h2⟩ := List.pairwise_cons.1 h
    have ih := ih h2
    unfold del at ih ⊢
    rcases lt_tri p.1 k with e | e | e
    · rw [List.filter_cons_of_pos (by simpa using lt_ne e), List.filter_cons_of_pos (by simpa using e), List.filter_cons_of_neg (by simpa using List.not_lt.1 (lt_asym e)), ih]
      rfl
    · have h3 : ∀ x ∈ F, k < x.1 := fun x hx => e ▸ h1 x hx
      rw [List.filter_cons_of_neg (by simpa using e), List.filter_cons_of_neg (by rw [e]; simp), List.filter_cons_of_neg (by rw [e]; simp), ih]
    · have h3 : ∀ x ∈ F, k < x.1 := fun x hx => lt_tr e (h1 x hx)
      rw [List.filter_cons_of_pos (by simpa using Ne.symm (lt_ne e)), List.filter_cons_of_neg (by simpa using List.not_lt.1 (lt_asym e)), List.filter_cons_of_pos (by simpa using e)]
      have a1 : F.filter (fun p => decide (p.1 < k)) = [] := filter_none (fun x hx => by simpa using List.not_lt.1 (lt_asym (h3 x hx)))
      have a2 : F.filter (fun p => decide (k < p.1)) = F := filter_all (fun x hx => by simpa using h3 x hx)
      have a3 : F.filter (fun p => !(p.1 == k)) = F := filter_all (fun x hx => by simpa using Ne.symm (lt_ne (h3 x hx)))
      rw [a1, a2, a3]
      rfl
theorem put_perm {F : M} (h : Up F) (k v : T) : (put k v F).Perm ((k, v) :: del k F) := by
  rw [del_split h]
  exact List.perm_middle
theorem get_some {F : M} {k v : T} (h : get F k = some v) : (k, v) ∈ F := by
  unfold get at h
  obtain ⟨p, hp, rfl⟩ := Option.map_eq_some_iff.1 h
  have h1 := List.find?_some hp
  simp at h1
  subst h1
  exact List.mem_of_find?_eq_some hp
theorem get_mem {F : M} (h : Up F) {k v : T} (hm : (k, v) ∈ F) : get F k = some v := by
  induction F with
  | nil => simp at hm
  | cons p F ih =>
    obtain ⟨h1, h2⟩ := List.pairwise_cons.1 h
    unfold get
    rcases List.mem_cons.1 hm with e | hm
    · subst e; simp
    · have : ¬ p.1 = k := fun e => lt_irr k (by have := h1 _ hm; rwa [e] at this)
      rw [List.find?_cons_of_neg (by simpa using this)]
      exact ih h2 hm
theorem get_none {F : M} {k : T} : get F k = none ↔ ∀ p ∈ F, p.1 ≠ k := by
  unfold get
  rw [Option.map_eq_none_iff, List.find?_eq_none]
  simp
theorem mem_put {F : M} (h : Up F) {k v : T} {p : T × T} : p ∈ put k v F ↔ p = (k, v) ∨ (p ∈ F ∧ p.1 ≠ k) := by
  rw [(put_perm h k v).mem_iff, List.mem_cons]
  unfold del
  rw [List.mem_filter]
  simp
theorem mem_del {F : M} {k : T} {p : T × T} : p ∈ del k F ↔ p ∈ F ∧ p.1 ≠ k := by
  unfold del
  rw [List.mem_filter]
  simp
theorem get_put {F : M} (h : Up F) (k v j : T) : get (put k v F) j = if j = k then some v else get F j := by
  by_cases e : j = k
  · subst e
    rw [if_pos rfl]
    exact get_mem (h.put _ _) ((mem_put h).2 (.inl rfl))
  · rw [if_neg e]
    cases hg : get F j with
    | none =>
      rw [get_none] at hg ⊢
      intro p hp
      rcases (mem_put h).1 hp with rfl | ⟨hp, _⟩
      · exact fun e' => e e'.symm
      · exact hg p hp
    | some x => exact get_mem (h.put _ _) ((mem_put h).2 (.inr ⟨get_some hg, e⟩))
theorem get_del {F : M} (h : Up F) (k j : T) : get (del k F) j = if j = k then none else get F j := by
  by_cases e : j = k
  · subst e
    rw [if_pos rfl, get_none]
    exact fun p hp => (mem_del.1 hp).2
  · rw [if_neg e]
    cases hg : get F j with
    | none =>
      rw [get_none] at hg ⊢
      exact fun p hp => hg p (mem_del.1 hp).1
    | some x => exact get_mem (h.del _) (mem_del.2 ⟨get_some hg, e⟩)
theorem up_ext : ∀ {F G : M}, Up F → Up G → (∀ p, p ∈ F ↔ p ∈ G) → F = G
  | [], [], _, _, _ => rfl
  | [], q :: G, _, _, h => absurd ((h q).2 List.mem_cons_self) (by simp)
  | p :: F, [], _, _, h => absurd ((h p).1 List.mem_cons_self) (by simp)
  | p :: F, q :: G, hF, hG, h => by
    obtain ⟨f1, f2⟩ := List.pairwise_cons.1 hF
    obtain ⟨g1, g2⟩ := List.pairwise_cons.1 hG
    have e : p = q := by
      rcases List.mem_cons.1 ((h p).1 List.mem_cons_self) with e | e
      · exact e
      · rcases List.mem_cons.1 ((h q).2 List.mem_cons_self) with e2 | e2
        · exact e2.symm
        · exact absurd (g1 _ e) (lt_asym (f1 _ e2))
    subst e
    rw [up_ext f2 g2 (fun x => ?_)]
    constructor
    · intro hx
      rcases List.mem_cons.1 ((h x).1 (List.mem_cons_of_mem _ hx)) with e | e
      · exact absurd (f1 _ hx) (by rw [e]; exact lt_irr _)
      · exact e
    · intro hx
      rcases List.mem_cons.1 ((h x).2 (List.mem_cons_of_mem _ hx)) with e | e
      · exact absurd (g1 _ hx) (by rw [e]; exact lt_irr _)
      · exact e
structure Chg where
  name : T
  data : T
  gone : Bool
def mayB (name data : T) : Bool := decide (name ≠ [] ∧ name.length ≤ 32 ∧ data.length ≤ 65535)
def Chg.may (c : Chg) : Bool := mayB c.name c.data && (!c.gone || c.data.isEmpty)
def Chg.on (F : M) (c : Chg) : M := if c.gone then del c.name F else put c.name c.data F
def made (F : M) (l : List Chg) : M := l.foldl Chg.on F
theorem made_snoc (F : M) (l : List Chg) (c : Chg) : made F (l ++ [c]) = Chg.on (made F l) c := by unfold made; rw [List.foldl_append]; rfl
theorem Up.on {F : M} (h : Up F) (c : Chg) : Up (Chg.on F c) := by unfold Chg.on; split; exact h.del _; exact h.put _ _
theorem Up.made {F : M} (h : Up F) (l : List Chg) : Up (made F l) := by
  induction l generalizing F with
  | nil => exact h
  | cons c l ih => exact ih (h.on c)
def Good (F : M) : Prop := ∀ p ∈ F, mayB p.1 p.2 = true
theorem Good.on {F : M} (h : Good F) (hu : Up F) {c : Chg} (hc : c.may = true) : Good (Chg.on F c) := by
  unfold Chg.may at hc
  simp only [Bool.and_eq_true] at hc
  unfold Chg.on
  intro p hp
  split at hp
  · exact h p (mem_del.1 hp).1
  · rcases (mem_put hu).1 hp with rfl | ⟨hp, _⟩
    · exact hc.1
    · exact h p hp
theorem Good.made {F : M} (h : Good F) (hu : Up F) {l : List Chg} (hl : ∀ c ∈ l, c.may = true) : Good (made F l) := by
  induction l generalizing F with
  | nil => exact h
  | cons c l ih => exact ih (h.on hu (hl c List.mem_cons_self)) (hu.on c) (fun x hx => hl x (List.mem_cons_of_mem _ hx))
theorem get_made {F : M} (hu : Up F) (l : List Chg) (k : T) : get (made F l) k = match l.reverse.find? (fun c => c.name == k) with | none => get F k | some c => if c.gone then none else some c.data := by
  induction l generalizing F with
  | nil => rfl
  | cons c l ih =>
    show get (made (Chg.on F c) l) k = _
    rw [ih (hu.on c), List.reverse_cons, List.find?_append]
    cases h : l.reverse.find? (fun c => c.name == k) with
    | some x => rfl
    | none =>
      simp only [Option.none_or, List.find?_cons, List.find?_nil]
      by_cases e : c.name = k
      · subst e
        simp only [beq_self_eq_true]
        unfold Chg.on
        split
        · rw [get_del hu, if_pos rfl]
        · rw [get_put hu, if_pos rfl]
      · have e2 : (c.name == k) = false := by simpa using e
        rw [e2]
        simp only
        unfold Chg.on
        split
        · rw [get_del hu, if_neg (fun h => e h.symm)]
        · rw [get_put hu, if_neg (fun h => e h.symm)]
def cost (p : T × T) : Nat := 8 + p.1.length + p.2.length
def used (F : M) : Nat := 4 + (F.map cost).sum
def entryB (p : T × T) : T := le 4 p.1.length ++ (p.1 ++ (le 4 p.2.length ++ p.2))
def bytes (F : M) : T := le 4 F.length ++ F.flatMap entryB
theorem entryB_length (p : T × T) : (entryB p).length = cost p := by unfold entryB cost; simp [Crc.le_length]; omega
theorem flat_length (F : M) : (F.flatMap entryB).length = (F.map cost).sum := by
  induction F with
  | nil => rfl
  | cons p F ih => rw [List.flatMap_cons, List.length_append, ih, entryB_length]; rfl
theorem bytes_length (F : M) : (bytes F).length = used F := by unfold bytes used; rw [List.length_append, Crc.le_length, flat_length]
theorem used_mem {F : M} {p : T × T} (h : p ∈ F) : cost p + 4 ≤ used F := by
  unfold used
  have : cost p ≤ (F.map cost).sum := by
    induction F with
    | nil => simp at h
    | cons q F ih =>
      rw [List.map_cons, List.sum_cons]
      rcases List.mem_cons.1 h with rfl | h
      · omega
      · have := ih h; omega
  omega
theorem used_len (F : M) : 4 + 8 * F.length ≤ used F := by
  unfold used
  have : 8 * F.length ≤ (F.map cost).sum := by
    induction F with
    | nil => simp
    | cons q F ih => rw [List.map_cons, List.sum_cons, List.length_cons]; unfold cost at ih ⊢; omega
  omega
def cut (s : T) : Option (T × T) := if s.length < 4 then none else if val (s.take 4) ≤ s.length - 4 then some ((s.take (4 + val (s.take 4))).drop 4, s.drop (4 + val (s.take 4))) else none
def mayNext (last : Option T) (k : T) : Bool := match last with | none => true | some x => decide (x < k)
def readE : Nat → Option T → T → Option (M × T)
  | 0, _, s => some ([], s)
  | n + 1, last, s => (cut s).bind fun p => (cut p.2).bind fun q => if mayB p.1 q.1 = true ∧ mayNext last p.1 = true then (readE n (some p.1) q.2).map fun r => ((p.1, q.1) :: r.1, r.2) else none
def read (s : T) : Option M := if s.length < 4 then none else (readE (val (s.take 4)) none (s.drop 4)).bind fun r => if r.2 = [] then some r.1 else none
theorem cut_of (s R : T) (h : s.length < 4294967296) : cut (le 4 s.length ++ (s ++ R)) = some (s, R) := by
  have e1 : (le 4 s.length ++ (s ++ R)).take 4 = le 4 s.length := List.take_left' (Crc.le_length _ _)
  have e2 : val (le 4 s.length) = s.length := Wal.val_le_small 4 _ (by omega)
  unfold cut
  rw [e1, e2, if_neg (by simp [Crc.le_length]), if_pos (by simp [Crc.le_length])]
  have e3 : (le 4 s.length ++ (s ++ R)).drop 4 = s ++ R := List.drop_left' (Crc.le_length _ _)
  have e4 : (le 4 s.length ++ (s ++ R)).drop (4 + s.length) = R := by rw [← List.drop_drop, e3, List.drop_left' rfl]
  have e5 : ((le 4 s.length ++ (s ++ R)).take (4 + s.length)).drop 4 = s := by
    rw [List.drop_take, e3, show 4 + s.length - 4 = s.length by omega, List.take_left' rfl]
  rw [e4, e5]
theorem cut_some {s p q : T} (h : cut s = some (p, q)) : 4 ≤ s.length ∧ p.length + q.length + 4 = s.length := by
  unfold cut at h
  split at h
  · cases h
  · split at h
    · simp only [Option.some.injEq, Prod.mk.injEq] at h
      obtain ⟨rfl, rfl⟩ := h
      rw [List.length_drop, List.length_drop, List.length_take]
      omega
    · cases h
theorem readE_of : ∀ (F : M) (last : Option T) (R : T), Up F → Good F → (∀ x, last = some x → ∀ p ∈ F, x < p.1) → readE F.length last (F.flatMap entryB ++ R) = some (F, R)
  | [], _, R, _, _, _ => rfl
  | p :: F, last, R, hu, hg, hl => by
    obtain ⟨u1, u2⟩ := List.pairwise_cons.1 hu
    have g1 := hg p List.mem_cons_self
    have g2 : p.1.length ≤ 32 ∧ p.2.length ≤ 65535 := by unfold mayB at g1; simp at g1; exact ⟨g1.2.1, g1.2.2⟩
    rw [List.length_cons, List.flatMap_cons]
    unfold readE
    have e1 : entryB p ++ F.flatMap entryB ++ R = le 4 p.1.length ++ (p.1 ++ (le 4 p.2.length ++ (p.2 ++ (F.flatMap entryB ++ R)))) := by unfold entryB; simp only [List.append_assoc]
    rw [e1, cut_of _ _ (by omega)]
    simp only [Option.bind_some]
    rw [cut_of _ _ (by omega)]
    simp only [Option.bind_some]
    have hn : mayNext last p.1 = true := by
      cases last with
      | none => rfl
      | some x => simpa [mayNext] using hl x rfl p List.mem_cons_self
    rw [if_pos ⟨g1, hn⟩, readE_of F (some p.1) R u2 (fun q hq => hg q (List.mem_cons_of_mem _ hq)) (fun x hx q hq => by cases hx; exact u1 q hq)]
    rfl
theorem read_bytes {F : M} (hu : Up F) (hg : Good F) (hn : F.length < 4294967296) : read (bytes F) = some F := by
  unfold read bytes
  rw [if_neg (by simp [Crc.le_length]), List.take_left' (Crc.le_length _ _), List.drop_left' (Crc.le_length _ _), Wal.val_le_small 4 _ (by omega)]
  have := readE_of F none [] hu hg (fun x e => by cases e)
  rw [List.append_nil] at this
  rw [this]
  rfl
def flagB (g : Bool) : UInt8 := if g then 1 else 0
def group (l : List Chg) : List T := l.flatMap fun c => [flagB c.gone :: c.name, c.data]
def ungroup : List T → Option (List Chg)
  | [] => some []
  | [_] => none
  | [] :: _ :: _ => none
  | (b :: n) :: d :: l => if b.toNat ≤ 1 ∧ Chg.may ⟨n, d, b == 1⟩ = true then (ungroup l).map (⟨n, d, b == 1⟩ :: ·) else none
theorem group_snoc (l : List Chg) (c : Chg) : group (l ++ [c]) = group l ++ [flagB c.gone :: c.name, c.data] := by unfold group; simp
theorem group_length (l : List Chg) : (group l).length = 2 * l.length := by
  induction l with
  | nil => rfl
  | cons c l ih => show (_ :: _ :: group l).length = _; simp [ih]; omega
theorem ungroup_group : ∀ (l : List Chg), (∀ c ∈ l, c.may = true) → ungroup (group l) = some l
  | [], _ => rfl
  | c :: l, h => by
    show ungroup ((flagB c.gone :: c.name) :: c.data :: group l) = _
    have hc := h c List.mem_cons_self
    have e : (flagB c.gone == 1) = c.gone := by unfold flagB; cases c.gone <;> rfl
    have e2 : (flagB c.gone).toNat ≤ 1 := by unfold flagB; cases c.gone <;> decide
    simp only [ungroup]
    rw [e, if_pos ⟨e2, hc⟩, ungroup_group l (fun x hx => h x (List.mem_cons_of_mem _ hx))]
    rfl
end Go.Proofs.YtoaihngckcbhiaaGreatDoor.Fil
namespace Go.Proofs.YtoaihngckcbhiaaGreatDoor
open Wal
structure Dsk.Calm (D : Dsk) : Prop where
  fine : D.Fine
  loose : D.loose = []
  up : D.down = false
theorem Dsk.Calm.crash {D : Dsk} (h : D.Calm) (keep : List UInt8) : D.crash keep = { D with left := -1 } := by
  obtain ⟨_, h2, h3⟩ := h
  unfold Dsk.crash Dsk.kept
  rw [h2]
  cases D
  simp only at h2 h3
  subst h2 h3
  rfl
theorem Dsk.Calm.now {D : Dsk} (h : D.Calm) : D.now = D.base := by unfold Dsk.now; rw [h.loose]; rfl
theorem Dsk.Calm.left {D : Dsk} (h : D.Calm) {n : Int} (h1 : -1 ≤ n) (h2 : n ≤ 9223372036854775807) : ({ D with left := n } : Dsk).Calm :=
  ⟨⟨h.fine.n1, h.fine.n2, h.fine.base, h.fine.loose, ⟨h1, h2⟩⟩, h.loose, h.up⟩
theorem doS_append (a b : List (Dsk → Dsk × Int)) (D : Dsk) : doS (a ++ b) D = if (doS a D).2 = 0 then doS b (doS a D).1 else doS a D := by
  induction a generalizing D with
  | nil => simp [doS]
  | cons f a ih =>
    rw [List.cons_append, doS_cons, doS_cons]
    by_cases h : (f D).2 = 0
    · rw [if_pos h, if_pos h, ih]
    · rw [if_neg h, if_neg h, if_neg h]
def Wrote (D : Dsk) (at_ k : Nat) (s : List UInt8) (r : Dsk × Int) : Prop :=
  (r.2 = 0 ∧ r.1.Calm ∧ r.1.n = D.n ∧ r.1.base = Dsk.lay D.base (puts at_ s k) ∧ (D.left = -1 → r.1.left = -1)) ∨
  (r.2 = 40 ∧ D.left ≠ -1 ∧ r.1.Fine ∧ r.1.down = true ∧ r.1.n = D.n ∧ ∀ keep, ∀ j, j < at_ ∨ at_ + k ≤ j ∨ k = 1 → (r.1.crash keep).base j = D.base j)
theorem writes_left (D : Dsk) (a : Nat) (s : List UInt8) (n : Nat) (h : D.left = -1) : (Dsk.writes D a s n).2 = 0 ∧ (Dsk.writes D a s n).1.left = -1 := by
  induction n generalizing D a s with
  | zero => exact ⟨rfl, h⟩
  | succ n ih =>
    simp only [Dsk.writes]
    rw [if_neg (by omega)]
    exact ih _ _ _ (by show max (D.left - 1) (-1) = -1; omega)
theorem wrote_any {D : Dsk} (h : D.Calm) {at_ k : Nat} {s : List UInt8} (hs : s.length = 64 * k) (hk : at_ + k ≤ D.n) : Wrote D at_ k s (doS [fun D => D.write (at_ : Int) s, Dsk.flush] D) := by
  have hF := h.fine
  have hn2 := hF.n2
  have hW : D.write (at_ : Int) s = Dsk.writes D at_ s k := by
    unfold Dsk.write
    rw [if_neg (by simp [h.up]), if_pos ⟨by omega, by simp [Dsk.inside]; omega⟩, show s.length / 64 = k by omega]
    rfl
  have hl := fun e => writes_left D at_ s k e
  obtain ⟨w1, w2, w3⟩ := writes_spec D h.up at_ s k
  have hF1 := hF.writes (at_ := at_) (s := s) (n := k) (by omega) (by omega)
  have hone : k = 1 → (Dsk.writes D at_ s k).2 = 40 → (Dsk.writes D at_ s k).1.loose = [] := by
    rintro rfl
    simp only [Dsk.writes]
    split
    · intro _; exact h.loose
    · intro e; cases e
  rw [doS_cons]
  show Wrote D at_ k s (if (D.write (at_ : Int) s).2 = 0 then _ else D.write (at_ : Int) s)
  rw [hW]
  generalize Dsk.writes D at_ s k = r at *
  obtain ⟨D1, e1⟩ := r
  simp only at *
  rcases w3 with ⟨rfl, g2, g3⟩ | ⟨rfl, g2, P, g3, g4⟩
  · rw [if_pos rfl]
    rw [h.loose, List.nil_append] at g3
    have hfl : D1.flush = ({ D1 with base := Dsk.lay D1.base D1.loose, loose := [] }, 0) := by unfold Dsk.flush; rw [if_neg (by simp [g2])]
    have hF2 := hF1.flush
    rw [hfl] at hF2
    rw [doS_cons, hfl, if_pos rfl]
    refine .inl ⟨rfl, ⟨hF2, rfl, g2⟩, w2, ?_, fun e => (hl e).2⟩
    show Dsk.lay D1.base D1.loose = _
    rw [w1, g3]
  · rw [if_neg (by decide)]
    refine .inr ⟨rfl, fun e => by have := (hl e).1; simp at this, hF1, g2, w2, fun keep j hj => ?_⟩
    have e2 : (D1.crash keep).base = Dsk.lay D1.base (Dsk.kept D1 keep) := rfl
    rw [e2, lay_far, w1]
    intro p hp
    have hp1 := Dsk.keptFrom_sub 0 _ p hp
    rcases hj with hj | hj | hj
    · rw [g3, h.loose, List.nil_append] at hp1
      have := g4 p hp1; omega
    · rw [g3, h.loose, List.nil_append] at hp1
      have := g4 p hp1; omega
    · rw [hone hj rfl] at hp1
      simp at hp1
def logAt (f : Nat → List UInt8) (L : WLog) : Prop := openS (Dsk.text f L.from_ L.n) L.n = some (L.gen, L.used, L.groups)
theorem logAt_same {f g : Nat → List UInt8} {L : WLog} (h : logAt f L) (e : ∀ j, L.from_ ≤ j → j < L.from_ + L.n → g j = f j) : logAt g L := by
  unfold logAt at *
  rw [Dsk.text_congr (g := f) _ _ (fun i a b => e i a b)]
  exact h
theorem logAt_loose {D : Dsk} (hD : D.Fine) {L : WLog} (h : logAt D.base L) (h1 : 1 ≤ L.n) (hn : L.from_ + L.n ≤ D.n) {g : Nat → List UInt8}
    (e : ∀ j, L.from_ ≤ j → j < L.from_ + 1 + L.used → g j = D.base j) : logAt g L := by
  unfold logAt at *
  have hl1 : (Dsk.text D.base L.from_ L.n).length = 64 * L.n := Dsk.text_length hD.base _ _ (by omega)
  have hu := (openS_some h (by omega) h1).1
  refine openS_same h (by omega) h1 ?_
  obtain ⟨m, hm⟩ : ∃ m, L.n = 1 + L.used + m := ⟨L.n - (1 + L.used), by omega⟩
  have e2 := Dsk.text_congr (f := g) (g := D.base) L.from_ (1 + L.used) (fun i a b => e i a (by omega))
  rw [hm, Dsk.text_add D.base L.from_ (1 + L.used) m, Dsk.text_add g L.from_ (1 + L.used) m, e2]
  rw [show 64 + 64 * L.used = 64 * (1 + L.used) by omega, List.take_left' (Dsk.len_in (fun i a b => hD.base i (by omega))), List.take_left' (Dsk.len_in (fun i a b => hD.base i (by omega)))]
def Appended (D : Dsk) (L : WLog) (l : List (List UInt8)) (k : Nat) (r : Dsk × WLog × Int) : Prop :=
  (r.2.2 = 0 ∧ r.2.1 = L.grown l k ∧ r.1.Calm ∧ r.1.n = D.n ∧ logAt r.1.base (L.grown l k) ∧ (∀ j, j < L.from_ ∨ L.from_ + L.n ≤ j → r.1.base j = D.base j) ∧ (D.left = -1 → r.1.left = -1)) ∨
  (r.2.2 = 40 ∧ D.left ≠ -1 ∧ r.2.1 = L.fell 40 ∧ r.1.Fine ∧ r.1.down = true ∧ r.1.n = D.n ∧ ∀ keep, logAt (r.1.crash keep).base L ∧ ∀ j, j < L.from_ ∨ L.from_ + L.n ≤ j → (r.1.crash keep).base j = D.base j)
theorem lay_puts_far (f : Nat → List UInt8) (a : Nat) (s : List UInt8) (k j : Nat) (h : j < a ∨ a + k ≤ j) : Dsk.lay f (puts a s k) j = f j := lay_far _ _ _ (fun p hp => by have := puts_mem p hp; omega)
theorem lay_puts_one (f : Nat → List UInt8) (a : Nat) (s : List UInt8) (hs : s.length = 64) : Dsk.lay f (puts a s 1) a = s := by
  have := text_puts f a s 1 (by omega)
  simpa [Dsk.text] using this
theorem grown_text {f : Nat → List UInt8} {a n u k : Nat} {s M : List UInt8} (hs : s.length = 64 * k) (hM : M.length = 64) (hk : u + k + 1 ≤ n) (hf : ∀ i, a ≤ i → i < a + n → (f i).length = 64) :
    Dsk.text (Dsk.lay (Dsk.lay f (puts (a + 1 + u) s k)) (puts a M 1)) a n = M ++ (((Dsk.text f a n).drop 64).take (64 * u) ++ (s ++ Dsk.text f (a + 1 + u + k) (n - 1 - u - k))) := by
  obtain ⟨m, hm2⟩ : ∃ m, n = m + 1 := ⟨n - 1, by omega⟩
  subst hm2
  show _ ++ Dsk.text _ (a + 1) m = _
  rw [lay_puts_one _ _ _ hM]
  congr 1
  rw [Dsk.text_congr (g := Dsk.lay f (puts (a + 1 + u) s k)) (a + 1) m (fun i a1 a2 => lay_puts_far _ _ _ _ _ (by omega))]
  obtain ⟨q, rfl⟩ : ∃ q, m = u + (k + q) := ⟨m - (u + k), by omega⟩
  rw [Dsk.text_add, Dsk.text_add]
  have t1 : Dsk.text (Dsk.lay f (puts (a + 1 + u) s k)) (a + 1) u = ((Dsk.text f a (u + (k + q) + 1)).drop 64).take (64 * u) := by
    rw [Dsk.text_congr (g := f) (a + 1) u (fun i a1 a2 => lay_puts_far _ _ _ _ _ (by omega))]
    show _ = ((f a ++ Dsk.text f (a + 1) _).drop 64).take _
    rw [List.drop_left' (hf a (by omega) (by omega)), Dsk.text_add, List.take_left' (Dsk.len_in (fun i a1 a2 => hf i (by omega) (by omega)))]
  rw [t1, text_puts _ _ _ _ hs, Dsk.text_congr (g := f) (a + 1 + u + k) q (fun i a1 a2 => lay_puts_far _ _ _ _ _ (by omega)), show u + (k + q) + 1 - 1 - u - k = q by omega]
theorem wappend_any {D : Dsk} {L : WLog} (h : D.Calm) (hl : logAt D.base L) (hf : L.fault = 0) (h2 : 2 ≤ L.n) (hn : L.from_ + L.n ≤ D.n) {l : List (List UInt8)} {s : List UInt8} (hg : groupE l = some s) (hroom : ¬ L.n - 1 - L.used < s.length / 64) :
    Appended D L l (s.length / 64) (wappend D L l) := by
  obtain ⟨h64, h640⟩ := groupE_length hg
  have hF := h.fine
  have hn2 := hF.n2
  have hlen : (Dsk.text D.base L.from_ L.n).length = 64 * L.n := Dsk.text_length hF.base _ _ (by omega)
  have hu := (openS_some hl (by omega) (by omega)).1
  obtain ⟨k, hk⟩ : ∃ k, k = s.length / 64 := ⟨_, rfl⟩
  rw [← hk] at hroom ⊢
  have hsl : s.length = 64 * k := by omega
  have hm := Wal.mark_length L.gen (L.used + k)
  have hacts : L.acts s = [fun D => D.write ((L.from_ + 1 + L.used : Nat) : Int) s, Dsk.flush] ++ [fun D => D.write (L.from_ : Int) (Wal.mark L.gen (L.used + k)), Dsk.flush] := by unfold WLog.acts; rw [← hk]; rfl
  have hgoal : wappend D L l = if (doS (L.acts s) D).2 = 0 then ((doS (L.acts s) D).1, L.grown l k, 0) else ((doS (L.acts s) D).1, L.fell (doS (L.acts s) D).2, (doS (L.acts s) D).2) := by
    unfold wappend
    rw [if_neg (by simp [hf]), hg]
    simp only
    rw [← hk, if_neg hroom]
  rw [hgoal, hacts, doS_append]
  have w1 := wrote_any h (at_ := L.from_ + 1 + L.used) (k := k) (s := s) hsl (by omega)
  generalize doS [fun D => D.write ((L.from_ + 1 + L.used : Nat) : Int) s, Dsk.flush] D = r1 at *
  rcases w1 with ⟨e1, c1, n1, b1, l1⟩ | ⟨e1, l1, f1, d1, n1, b1⟩
  · rw [if_pos e1]
    have w2 := wrote_any c1 (at_ := L.from_) (k := 1) (s := Wal.mark L.gen (L.used + k)) (by omega) (by omega)
    generalize doS [fun D => D.write (L.from_ : Int) (Wal.mark L.gen (L.used + k)), Dsk.flush] r1.1 = r2 at *
    rcases w2 with ⟨e2, c2, n2, b2, l2⟩ | ⟨e2, l2, f2, d2, n2, b2⟩
    · rw [if_pos e2]
      refine .inl ⟨rfl, rfl, c2, n2.trans n1, ?_, fun j hj => ?_, fun e => l2 (l1 e)⟩
      · have hgr := openS_grown hl (by omega) (by omega) (by omega) hg (R := Dsk.text D.base (L.from_ + 1 + L.used + k) (L.n - 1 - L.used - k)) (by omega)
        show openS (Dsk.text _ L.from_ L.n) L.n = some (L.gen, L.used + k, L.groups ++ [l])
        rw [← hk] at hgr
        refine Eq.trans ?_ hgr
        rw [b2, b1]
        congr 1
        exact grown_text hsl hm (by omega) (fun i a b => hF.base i (by omega))
      · rw [b2, lay_puts_far _ _ _ _ _ (by omega), b1, lay_puts_far _ _ _ _ _ (by omega)]
    · rw [if_neg (by rw [e2]; decide), e2]
      refine .inr ⟨rfl, fun e => l2 (l1 e), rfl, f2, d2, n2.trans n1, fun keep => ⟨?_, fun j hj => ?_⟩⟩
      · refine logAt_loose hF hl (by omega) hn (fun j a b => ?_)
        rw [b2 keep j (.inr (.inr rfl)), b1, lay_puts_far _ _ _ _ _ (by omega)]
      · rw [b2 keep j (.inr (.inr rfl)), b1, lay_puts_far _ _ _ _ _ (by omega)]
  · have hne : r1.2 ≠ 0 := by rw [e1]; decide
    rw [if_neg hne, if_neg hne, e1]
    refine .inr ⟨rfl, l1, rfl, f1, d1, n1, fun keep => ⟨?_, fun j hj => ?_⟩⟩
    · exact logAt_loose hF hl (by omega) hn (fun j a b => b1 keep j (by omega))
    · exact b1 keep j (by omega)
def Emptied (D : Dsk) (L : WLog) (r : Dsk × WLog × Int) : Prop :=
  (r.2.2 = 0 ∧ r.2.1 = L.emptied ∧ r.1.Calm ∧ r.1.n = D.n ∧ logAt r.1.base L.emptied ∧ (∀ j, j < L.from_ ∨ L.from_ + L.n ≤ j → r.1.base j = D.base j) ∧ (D.left = -1 → r.1.left = -1)) ∨
  (r.2.2 = 40 ∧ D.left ≠ -1 ∧ r.2.1 = L.fell 40 ∧ r.1.Fine ∧ r.1.down = true ∧ r.1.n = D.n ∧ ∀ keep, ∀ j, (r.1.crash keep).base j = D.base j)
theorem wreset_any {D : Dsk} {L : WLog} (h : D.Calm) (hf : L.fault = 0) (h2 : 2 ≤ L.n) (hn : L.from_ + L.n ≤ D.n) : Emptied D L (wreset D L) := by
  have hF := h.fine
  have hn2 := hF.n2
  have hm := Wal.mark_length ((L.gen + 1) % 18446744073709551616) 0
  have hg2 : (L.gen + 1) % 18446744073709551616 < 18446744073709551616 := Nat.mod_lt _ (by decide)
  have w1 := wrote_any h (at_ := L.from_) (k := 1) (s := Wal.mark ((L.gen + 1) % 18446744073709551616) 0) (by omega) (by omega)
  unfold wreset WLog.racts
  rw [if_neg (by simp [hf])]
  have hem : L.emptied = { L with gen := (L.gen + 1) % 18446744073709551616, used := 0, groups := [] } := rfl
  unfold Emptied
  rw [hem]
  generalize (L.gen + 1) % 18446744073709551616 = g2 at *
  generalize doS [fun D => D.write (L.from_ : Int) (Wal.mark g2 0), Dsk.flush] D = r1 at *
  rcases w1 with ⟨e1, c1, n1, b1, l1⟩ | ⟨e1, l1, f1, d1, n1, b1⟩
  · rw [if_pos e1]
    refine .inl ⟨rfl, rfl, c1, n1, ?_, fun j hj => by show r1.1.base j = _; rw [b1, lay_puts_far _ _ _ _ _ (by omega)], l1⟩
    show openS (Dsk.text r1.1.base L.from_ L.n) L.n = some (g2, 0, [])
    obtain ⟨m, hm2⟩ : ∃ m, L.n = m + 1 := ⟨L.n - 1, by omega⟩
    rw [hm2, b1]
    show openS (Dsk.lay D.base (puts L.from_ (Wal.mark g2 0) 1) L.from_ ++ Dsk.text _ (L.from_ + 1) m) (m + 1) = _
    rw [lay_puts_one _ _ _ hm]
    exact openS_mark (L := []) (S := []) hg2 (by omega) (by decide) rfl rfl
  · have hne : r1.2 ≠ 0 := by rw [e1]; decide
    rw [if_neg hne, e1]
    exact .inr ⟨rfl, l1, rfl, f1, d1, n1, fun keep j => b1 keep j (.inr (.inr rfl))⟩
end Go.Proofs.YtoaihngckcbhiaaGreatDoor
namespace Go.Proofs.YtoaihngckcbhiaaGreatDoor.Fil
open Crc (le val sealT)
open Wal
structure St where
  log : Nat
  size : Nat
  area : Nat
  m : M
  w : WLog
  fault : Int
def lg (n : Nat) : Nat := max (n / 8) 2
def sz (n : Nat) : Nat := (n - 1 - lg n) / 2
theorem lg_sz {n : Nat} (h : 8 ≤ n) : 2 ≤ lg n ∧ 2 ≤ sz n ∧ 1 + lg n + 2 * sz n ≤ n := by unfold sz lg; omega
def mark (area num : Nat) : T := pad (sealT ([70, 73, 76, 49] ++ [UInt8.ofNat area] ++ le 8 num))
theorem mark_length (area num : Nat) : (mark area num).length = 64 := by
  unfold mark
  rw [pad_length, Crc.seal_length]
  simp [Crc.le_length]
def begin_ (log size area : Nat) : Nat := 1 + log + area * size
def loadS (f : Nat → T) (log size : Nat) : Option (Nat × Nat × M) :=
  if f 0 = pad [0] then some (0, 0, []) else
  if ((f 0).getD 4 0).toNat ≤ 1 ∧ f 0 = mark ((f 0).getD 4 0).toNat (val (((f 0).take 13).drop 5)) then
    (cut (Dsk.text f (begin_ log size ((f 0).getD 4 0).toNat) size)).bind fun p => (read p.1).map fun m => (((f 0).getD 4 0).toNat, val (((f 0).take 13).drop 5), m)
  else none
def ungroups : List (List T) → Option (List (List Chg))
  | [] => some []
  | g :: G => (ungroup g).bind fun c => (ungroups G).map (c :: ·)
def madeAll (m : M) (cs : List (List Chg)) : M := cs.foldl made m
theorem ungroups_snoc (G : List (List T)) (g : List T) : ungroups (G ++ [g]) = (ungroups G).bind fun cs => (ungroup g).map fun c => cs ++ [c] := by
  induction G with
  | nil => cases h : ungroup g <;> simp [ungroups, h]
  | cons x G ih =>
    rw [List.cons_append]
    simp only [ungroups, ih]
    cases ungroup x with
    | none => rfl
    | some a =>
      cases ungroups G with
      | none => rfl
      | some b =>
        cases ungroup g with
        | none => rfl
        | some c => rfl
theorem madeAll_snoc (m : M) (cs : List (List Chg)) (c : List Chg) : madeAll m (cs ++ [c]) = made (madeAll m cs) c := by unfold madeAll; rw [List.foldl_append]; rfl
theorem ungroup_may : ∀ (n : Nat) (l : List T) (cs : List Chg), l.length ≤ n → ungroup l = some cs → ∀ c ∈ cs, c.may = true := by
  intro n
  induction n with
  | zero =>
    intro l cs hn h c hc
    obtain rfl : l = [] := List.eq_nil_of_length_eq_zero (by omega)
    simp only [ungroup, Option.some.injEq] at h
    subst h
    simp at hc
  | succ n ih =>
    intro l cs hn h
    match l, h with
    | [], h =>
      simp only [ungroup, Option.some.injEq] at h
      subst h
      intro c hc
      simp at hc
    | [_], h => simp [ungroup] at h
    | [] :: _ :: _, h => simp [ungroup] at h
    | (b :: k) :: d :: l, h =>
      simp only [ungroup] at h
      split at h
      · rename_i hm
        obtain ⟨ds, hd, rfl⟩ := Option.map_eq_some_iff.1 h
        intro c hc
        rcases List.mem_cons.1 hc with rfl | hc
        · exact hm.2
        · exact ih l ds (by simp at hn; omega) hd c hc
      · cases h
def openF (D : Dsk) : Option St × Dsk × Int :=
  if D.n < 8 then (none, D, 2) else if D.down = true then (none, D, 40) else
  match loadS D.now (lg D.n) (sz D.n) with
  | none => (none, D, 50)
  | some (a, num, m) => match openS (Dsk.text D.now 1 (lg D.n)) (lg D.n) with
    | none => (none, D, 50)
    | some (g, u, G) => if 0 < num ∧ g < num - 1 then (none, D, 50) else
      match ungroups G with
      | none => (none, D, 50)
      | some cs => if g < num then
          (if (wreset D ⟨1, lg D.n, g, u, G, 0⟩).2.2 = 0 then (some ⟨lg D.n, sz D.n, a, m, (wreset D ⟨1, lg D.n, g, u, G, 0⟩).2.1, 0⟩, (wreset D ⟨1, lg D.n, g, u, G, 0⟩).1, 0)
            else (none, (wreset D ⟨1, lg D.n, g, u, G, 0⟩).1, (wreset D ⟨1, lg D.n, g, u, G, 0⟩).2.2))
        else (some ⟨lg D.n, sz D.n, a, madeAll m cs, ⟨1, lg D.n, g, u, G, 0⟩, 0⟩, D, 0)
def areaB (m : M) : T := pad (le 4 (bytes m).length ++ bytes m)
def laidActs (F : St) (m : M) : List (Dsk → Dsk × Int) :=
  [fun D => D.write ((begin_ F.log F.size (1 - F.area) : Nat) : Int) (areaB m), Dsk.flush, fun D => D.write ((0 : Nat) : Int) (mark (1 - F.area) ((F.w.gen + 1) % 18446744073709551616)), Dsk.flush]
def laidS (D : Dsk) (F : St) (m : M) : Dsk × St × Int :=
  if (doS (laidActs F m) D).2 = 0 then
    if (wreset (doS (laidActs F m) D).1 F.w).2.2 = 0 then ((wreset (doS (laidActs F m) D).1 F.w).1, { F with area := 1 - F.area, m := m, w := (wreset (doS (laidActs F m) D).1 F.w).2.1 }, 0)
    else ((wreset (doS (laidActs F m) D).1 F.w).1, { F with area := 1 - F.area, w := (wreset (doS (laidActs F m) D).1 F.w).2.1, fault := (wreset (doS (laidActs F m) D).1 F.w).2.2 }, (wreset (doS (laidActs F m) D).1 F.w).2.2)
  else ((doS (laidActs F m) D).1, { F with area := 1 - F.area, fault := (doS (laidActs F m) D).2 }, (doS (laidActs F m) D).2)
def St.room (F : St) : Nat := F.size * 64 - 4
def St.fits (F : St) (l : List T) : Bool := match groupE l with | none => false | some s => decide (s.length / 64 ≤ F.w.n - 1 - F.w.used)
def commitS (D : Dsk) (F : St) (l : List Chg) : Dsk × St × Int :=
  if F.fault ≠ 0 then (D, F, F.fault) else if l.all Chg.may = false then (D, F, 2) else
  if F.room < used (made F.m l) then (D, F, 4) else
  if F.fits (group l) = true then
    if (wappend D F.w (group l)).2.2 = 0 then ((wappend D F.w (group l)).1, { F with m := made F.m l, w := (wappend D F.w (group l)).2.1 }, 0)
    else ((wappend D F.w (group l)).1, { F with w := (wappend D F.w (group l)).2.1, fault := (wappend D F.w (group l)).2.2 }, (wappend D F.w (group l)).2.2)
  else laidS D F (made F.m l)
structure Calm (D : Dsk) (F : St) : Prop where
  disk : D.Calm
  n8 : 8 ≤ D.n
  log : F.log = lg D.n
  size : F.size = sz D.n
  area : F.area ≤ 1
  wfrom : F.w.from_ = 1
  wn : F.w.n = F.log
  wal : logAt D.base F.w
  wf : F.w.fault = 0
  fault : F.fault = 0
  good : Good F.m
  up : Up F.m
  room : used F.m ≤ F.room
  load : ∃ num A cs, loadS D.base F.log F.size = some (F.area, num, A) ∧ num ≤ F.w.gen ∧ ungroups F.w.groups = some cs ∧ F.m = madeAll A cs
def Opens (D : Dsk) (F : St) (D' : Dsk) : Prop := openF D = (some F, D', 0) ∧ Calm D' F ∧ D'.n = D.n
theorem Calm.opens {D : Dsk} {F : St} (h : Calm D F) : Opens D F D := by
  refine ⟨?_, h, rfl⟩
  obtain ⟨num, A, cs, h1, h2, h3, h4⟩ := h.load
  have hw := h.wal
  unfold logAt at hw
  rw [h.wfrom, h.wn, h.log] at hw
  rw [h.log, h.size] at h1
  unfold openF
  rw [if_neg (by have := h.n8; omega), if_neg (by simp [h.disk.up]), h.disk.now, h1]
  simp only
  rw [hw]
  simp only
  rw [if_neg (by omega), h3]
  simp only
  rw [if_neg (by omega), ← h4]
  have e : (⟨1, lg D.n, F.w.gen, F.w.used, F.w.groups, 0⟩ : WLog) = F.w := by
    have a1 := h.wfrom; have a2 := h.wn; have a3 := h.wf; have a4 := h.log
    cases hF : F.w
    rw [hF] at a1 a2 a3
    simp only at a1 a2 a3
    subst a1 a3
    rw [a2, a4]
  rw [e]
  have a1 := h.log; have a2 := h.size; have a3 := h.fault
  cases F
  simp only at a1 a2 a3
  subst a1 a2 a3
  rfl
theorem loadS_same {f g : Nat → T} {log size a num : Nat} {A : M} (h : loadS f log size = some (a, num, A)) (h0 : g 0 = f 0) (h1 : ∀ j, begin_ log size a ≤ j → j < begin_ log size a + size → g j = f j) : loadS g log size = some (a, num, A) := by
  unfold loadS at *
  rw [h0]
  by_cases h2 : f 0 = pad [0]
  · rw [if_pos h2] at h ⊢
    exact h
  · rw [if_neg h2] at h ⊢
    by_cases h3 : ((f 0).getD 4 0).toNat ≤ 1 ∧ f 0 = mark ((f 0).getD 4 0).toNat (val (((f 0).take 13).drop 5))
    · rw [if_pos h3] at h
      have ha : ((f 0).getD 4 0).toNat = a := by
        cases hc : cut (Dsk.text f (begin_ log size ((f 0).getD 4 0).toNat) size) with
        | none => rw [hc] at h; cases h
        | some p =>
          rw [hc] at h
          simp only [Option.bind_some] at h
          obtain ⟨m, _, e⟩ := Option.map_eq_some_iff.1 h
          simp only [Prod.mk.injEq] at e
          exact e.1
      rw [if_pos h3, ha, Dsk.text_congr (g := f) _ _ (fun i b c => h1 i b (by omega))]
      rw [ha] at h
      exact h
    · rw [if_neg h3] at h
      cases h
theorem Calm.near {D E : Dsk} {F F' : St} (h : Calm D F) (hE : E.Calm) (hn : E.n = D.n) (hl : logAt E.base F'.w) (e : F' = { F with w := F'.w }) (e1 : F'.w.from_ = 1) (e2 : F'.w.n = F.w.n) (e3 : F'.w.fault = 0) (hg : F.w.gen ≤ F'.w.gen) (hG : F'.w.groups = F.w.groups)
    (hb : ∀ j, (j = 0 ∨ begin_ F.log F.size F.area ≤ j ∧ j < begin_ F.log F.size F.area + F.size) → E.base j = D.base j) : Calm E F' := by
  obtain ⟨num, A, cs, h1, h2, h3, h4⟩ := h.load
  have f1 : F'.log = F.log := by rw [e]
  have f2 : F'.size = F.size := by rw [e]
  have f3 : F'.area = F.area := by rw [e]
  have f4 : F'.m = F.m := by rw [e]
  have f5 : F'.fault = F.fault := by rw [e]
  refine ⟨hE, by rw [hn]; exact h.n8, by rw [f1, hn]; exact h.log, by rw [f2, hn]; exact h.size, by rw [f3]; exact h.area, e1, by rw [e2, f1]; exact h.wn, hl, e3, by rw [f5]; exact h.fault, by rw [f4]; exact h.good, by rw [f4]; exact h.up, by unfold St.room; rw [f4, f2]; exact h.room, num, A, cs, ?_, by omega, by rw [hG]; exact h3, by rw [f4]; exact h4⟩
  rw [f1, f2, f3]
  exact loadS_same h1 (hb 0 (.inl rfl)) (fun j a b => hb j (.inr ⟨a, b⟩))
theorem Calm.crash {D : Dsk} {F : St} (h : Calm D F) (keep : List UInt8) : Calm (D.crash keep) F := by
  rw [h.disk.crash]
  exact h.near (h.disk.left (by omega) (by omega)) rfl h.wal (by cases F; rfl) h.wfrom rfl h.wf (Nat.le_refl _) rfl (fun _ _ => rfl)
theorem Calm.fuse {D : Dsk} {F : St} (h : Calm D F) {n : Int} (hn : n ≤ 9223372036854775807) : Calm (D.fuse n) F :=
  h.near (h.disk.left (n := max n (-1)) (by omega) (by omega)) rfl h.wal (by cases F; rfl) h.wfrom rfl h.wf (Nat.le_refl _) rfl (fun _ _ => rfl)
theorem pad0 : pad [0] = List.replicate 64 0 := rfl
theorem Calm.new {n : Nat} (h8 : 8 ≤ n) (hn : n ≤ 16384) : Calm (Dsk.new n) ⟨lg n, sz n, 0, [], ⟨1, lg n, 0, 0, [], 0⟩, 0⟩ := by
  obtain ⟨h1, h2, h3⟩ := lg_sz h8
  refine ⟨⟨Dsk.Fine.new (by omega) hn, rfl, rfl⟩, h8, rfl, rfl, Nat.zero_le _, rfl, rfl, ?_, rfl, rfl, fun p hp => by simp at hp, Up.nil, by unfold used St.room; simp; omega, 0, [], [], ?_, Nat.le_refl _, rfl, rfl⟩
  · show openS (Dsk.text (fun _ => sec0) 1 (lg n)) (lg n) = some (0, 0, [])
    rw [Dsk.text_zero]
    unfold openS
    have e : (List.replicate (64 * lg n) (0 : UInt8)).take 64 = pad [0] := by
      rw [List.take_replicate, Nat.min_eq_left (by omega)]; rfl
    rw [e, if_pos rfl]
  · show loadS (fun _ => sec0) _ _ = _
    unfold loadS
    exact if_pos rfl
theorem mark_form (a num : Nat) : ∃ z, mark a num = [70, 73, 76, 49] ++ ([UInt8.ofNat a] ++ (le 8 num ++ z)) := by
  unfold mark pad Crc.sealT
  simp only [List.append_assoc]
  exact ⟨_, rfl⟩
theorem mark_area (a num : Nat) (ha : a ≤ 1) : (mark a num).getD 4 0 = UInt8.ofNat a ∧ ((mark a num).getD 4 0).toNat = a := by
  obtain ⟨z, e⟩ := mark_form a num
  have e1 : (mark a num).getD 4 0 = UInt8.ofNat a := by rw [e]; rfl
  exact ⟨e1, by rw [e1, u8_ofNat, Nat.mod_eq_of_lt (by omega)]⟩
theorem mark_num (a num : Nat) (hn : num < 18446744073709551616) : val (((mark a num).take 13).drop 5) = num := by
  obtain ⟨z, e⟩ := mark_form a num
  have e1 : ((mark a num).take 13).drop 5 = le 8 num := by
    rw [e, ← List.append_assoc, List.drop_take, List.drop_left' (show ([70, 73, 76, 49] ++ [UInt8.ofNat a]).length = 5 from rfl), List.take_left' (by rw [Crc.le_length])]
  rw [e1]
  exact val_le_small 8 _ (by omega)
theorem mark_ne (a num : Nat) : mark a num ≠ pad [0] := fun h => by
  obtain ⟨z, e⟩ := mark_form a num
  rw [e, pad0] at h
  have := congrArg (fun l => l.head?) h
  simp at this
theorem loadS_mark {f : Nat → T} {log size a num : Nat} {m : M} {R : T} (ha : a ≤ 1) (hn : num < 18446744073709551616) (hu : Up m) (hg : Good m) (hb : used m < 4294967296) (h0 : f 0 = mark a num) (h1 : Dsk.text f (begin_ log size a) size = le 4 (bytes m).length ++ (bytes m ++ R)) : loadS f log size = some (a, num, m) := by
  unfold loadS
  rw [h0, if_neg (mark_ne a num), (mark_area a num ha).2, mark_num a num hn, if_pos ⟨ha, rfl⟩, h1, cut_of _ _ (by rw [bytes_length]; exact hb)]
  simp only [Option.bind_some]
  rw [read_bytes hu hg (by have := used_len m; omega)]
  rfl
theorem areaB_length (m : M) : (areaB m).length = (4 + used m + 63) / 64 * 64 := by
  unfold areaB
  rw [pad_length, List.length_append, Crc.le_length, bytes_length]
theorem areaB_form (m : M) : ∃ z, areaB m = le 4 (bytes m).length ++ (bytes m ++ z) := by
  unfold areaB pad
  exact ⟨_, by rw [List.append_assoc]⟩
structure Commits (D : Dsk) (F : St) (l : List Chg) (r : Dsk × St × Int) : Prop where
  n : r.1.n = D.n
  fine : r.1.Fine
  same : r.2.1.log = F.log ∧ r.2.1.size = F.size
  out : (r.2.2 = 0 ∧ Calm r.1 r.2.1 ∧ r.2.1.m = made F.m l ∧ r.2.1.w.gen ≤ F.w.gen + 1 ∧ (D.left = -1 → r.1.left = -1)) ∨
    (r.2.2 = 40 ∧ D.left ≠ -1 ∧ r.2.1.fault = 40 ∧ r.2.1.m = F.m ∧ r.1.down = true ∧ ∀ keep, ∃ F' D', Opens (r.1.crash keep) F' D' ∧ D'.left = -1 ∧ F'.w.gen ≤ F.w.gen + 1 ∧ (F'.m = F.m ∨ F'.m = made F.m l))
theorem crash_calm {D : Dsk} (h : D.Fine) (keep : List UInt8) : (D.crash keep).Calm := ⟨h.crash keep, rfl, rfl⟩
theorem laid_any {D : Dsk} {F : St} (h : Calm D F) (hgen : F.w.gen < 9223372036854775808) {m : M} (hu : Up m) (hg : Good m) (hr : used m ≤ F.room) {l : List Chg} (hm : m = made F.m l) : Commits D F l (laidS D F m) := by
  obtain ⟨g1, g2, g3⟩ := lg_sz h.n8
  have hlog := h.log
  have hsize := h.size
  have hF := h.disk.fine
  have hn2 := hF.n2
  have hl := h.wal
  have hwn := h.wn
  have hwf := h.wfrom
  have har := h.area
  unfold St.room at hr
  have hA : (1 - F.area) ≤ 1 := by omega
  have ha1 := areaB_length m
  obtain ⟨k, hk⟩ : ∃ k, (areaB m).length = 64 * k := ⟨(4 + used m + 63) / 64, by omega⟩
  have hk2 : k ≤ F.size := by omega
  have hbeg : begin_ F.log F.size (1 - F.area) + F.size ≤ D.n ∧ 1 + F.log ≤ begin_ F.log F.size (1 - F.area) ∧ (begin_ F.log F.size F.area + F.size ≤ begin_ F.log F.size (1 - F.area) ∨ begin_ F.log F.size (1 - F.area) + F.size ≤ begin_ F.log F.size F.area) := by
    unfold begin_
    rcases Nat.lt_or_ge F.area 1 with e | e
    · obtain e0 : F.area = 0 := by omega
      rw [e0]; omega
    · obtain e0 : F.area = 1 := by omega
      rw [e0]; omega
  obtain ⟨b1, b2, b3⟩ := hbeg
  have hgm : (F.w.gen + 1) % 18446744073709551616 = F.w.gen + 1 := Nat.mod_eq_of_lt (by omega)
  have hml := mark_length (1 - F.area) (F.w.gen + 1)
  have hacts : laidActs F m = [fun D => D.write ((begin_ F.log F.size (1 - F.area) : Nat) : Int) (areaB m), Dsk.flush] ++ [fun D => D.write ((0 : Nat) : Int) (mark (1 - F.area) (F.w.gen + 1)), Dsk.flush] := by unfold laidActs; rw [hgm]; rfl
  -- whatever a crash leaves outside of the other area, the files are as they were
  have hold : ∀ E : Dsk, E.Calm → E.n = D.n → (∀ j, j < begin_ F.log F.size (1 - F.area) ∨ begin_ F.log F.size (1 - F.area) + F.size ≤ j → E.base j = D.base j) → Calm E F := fun E hE hn hb =>
    h.near hE hn (logAt_same hl (fun j c d => hb j (.inl (by omega)))) (by cases F; rfl) h.wfrom rfl h.wf (Nat.le_refl _) rfl (fun j hj => hb j (by rcases hj with rfl | hj; exact .inl (by omega); omega))
  unfold laidS
  rw [hacts, doS_append]
  have w1 := wrote_any h.disk (at_ := begin_ F.log F.size (1 - F.area)) (k := k) (s := areaB m) hk (by omega)
  generalize doS [fun D => D.write ((begin_ F.log F.size (1 - F.area) : Nat) : Int) (areaB m), Dsk.flush] D = r1 at *
  rcases w1 with ⟨e1, c1, n1, q1, l1⟩ | ⟨e1, l1, f1, d1, n1, q1⟩
  · rw [if_pos e1]
    have w2 := wrote_any c1 (at_ := 0) (k := 1) (s := mark (1 - F.area) (F.w.gen + 1)) (by omega) (by omega)
    generalize doS [fun D => D.write ((0 : Nat) : Int) (mark (1 - F.area) (F.w.gen + 1)), Dsk.flush] r1.1 = r2 at *
    rcases w2 with ⟨e2, c2, n2, q2, l2⟩ | ⟨e2, l2, f2, d2, n2, q2⟩
    · rw [if_pos e2]
      have hb2 : ∀ j, j ≠ 0 → (j < begin_ F.log F.size (1 - F.area) ∨ begin_ F.log F.size (1 - F.area) + F.size ≤ j) → r2.1.base j = D.base j := fun j h0 hj => by
        rw [q2, lay_puts_far _ _ _ _ _ (by omega), q1, lay_puts_far _ _ _ _ _ (by omega)]
      have hl2 : logAt r2.1.base F.w := logAt_same hl (fun j c d => hb2 j (by omega) (.inl (by omega)))
      have w3 := wreset_any c2 (L := F.w) h.wf (by omega) (by omega)
      -- the mark names the new files
      obtain ⟨z, ez⟩ := areaB_form m
      have hload : ∀ E : Dsk, (∀ j, j < 1 ∨ 1 + F.log ≤ j → E.base j = r2.1.base j) → loadS E.base F.log F.size = some (1 - F.area, F.w.gen + 1, m) := fun E hE => by
        refine loadS_mark (R := z ++ Dsk.text D.base (begin_ F.log F.size (1 - F.area) + k) (F.size - k)) hA (by omega) hu hg (by omega) ?_ ?_
        · rw [hE 0 (by omega), q2, lay_puts_one _ _ _ hml]
        · obtain ⟨q, hq⟩ : ∃ q, F.size = k + q := ⟨F.size - k, by omega⟩
          have e3 : Dsk.text E.base (begin_ F.log F.size (1 - F.area)) F.size = Dsk.text (Dsk.lay D.base (puts (begin_ F.log F.size (1 - F.area)) (areaB m) k)) (begin_ F.log F.size (1 - F.area)) F.size := by
            refine Dsk.text_congr _ _ (fun i c d => ?_)
            rw [hE i (by omega), q2, lay_puts_far _ _ _ _ _ (by omega), q1]
          rw [e3]
          generalize begin_ F.log F.size (1 - F.area) = B at *
          rw [hq, Dsk.text_add, text_puts _ _ _ _ hk, Dsk.text_congr (g := D.base) (B + k) q (fun i c d => lay_puts_far _ _ _ _ _ (by omega)), ez, show k + q - k = q by omega]
          simp only [List.append_assoc]
      generalize wreset r2.1 F.w = r3 at *
      have hem : F.w.emptied = ⟨1, F.log, F.w.gen + 1, 0, [], 0⟩ := by
        unfold WLog.emptied
        rw [hgm]
        have a1 := h.wfrom; have a2 := h.wn; have a3 := h.wf
        cases hF2 : F.w
        rw [hF2] at a1 a2 a3
        simp only at a1 a2 a3 ⊢
        subst a1 a2 a3
        rfl
      -- files that are opened with an empty log
      have hcalm : ∀ E : Dsk, E.Calm → E.n = D.n → logAt E.base (⟨1, F.log, F.w.gen + 1, 0, [], 0⟩ : WLog) → (∀ j, j < 1 ∨ 1 + F.log ≤ j → E.base j = r2.1.base j) → Calm E ⟨F.log, F.size, 1 - F.area, m, ⟨1, F.log, F.w.gen + 1, 0, [], 0⟩, 0⟩ := fun E hE hn hw hb =>
        ⟨hE, by rw [hn]; exact h.n8, by rw [hn]; exact h.log, by rw [hn]; exact h.size, hA, rfl, rfl, hw, rfl, rfl, hg, hu, hr, F.w.gen + 1, m, [], hload E hb, Nat.le_refl _, rfl, rfl⟩
      rcases w3 with ⟨e3, o3, c3, n3, g3, q3, l3⟩ | ⟨e3, l3, o3, f3, d3, n3, q3⟩
      · rw [if_pos e3]
        rw [hem] at o3 g3
        refine ⟨n3.trans (n2.trans n1), c3.fine, ⟨rfl, rfl⟩, .inl ⟨rfl, ?_, hm, by rw [o3]; exact Nat.le_refl _, fun e => l3 (l2 (l1 e))⟩⟩
        have := hcalm r3.1 c3 (n3.trans (n2.trans n1)) g3 (fun j hj => q3 j (by omega))
        rw [o3]
        have hfault := h.fault
        cases F
        simp only at hfault
        subst hfault
        exact this
      · have hne : r3.2.2 ≠ 0 := by rw [e3]; decide
        rw [if_neg hne]
        refine ⟨n3.trans (n2.trans n1), f3, ⟨rfl, rfl⟩, .inr ⟨e3, fun e => l3 (l2 (l1 e)), e3, rfl, d3, fun keep => ?_⟩⟩
        have hEn : (r3.1.crash keep).n = D.n := n3.trans (n2.trans n1)
        have hEC := crash_calm f3 keep
        have hEb := q3 keep
        have hEl : (r3.1.crash keep).left = -1 := rfl
        generalize r3.1.crash keep = E at *
        have hlE : logAt E.base F.w := logAt_same hl2 (fun j _ _ => hEb j)
        have w4 := wreset_any hEC (L := F.w) h.wf (by omega) (by omega)
        rcases w4 with ⟨e4, o4, c4, n4, g4, q4, l4⟩ | ⟨_, l4, _⟩
        · rw [hem] at o4 g4
          refine ⟨_, _, ⟨?_, hcalm (wreset E F.w).1 c4 (n4.trans hEn) g4 (fun j hj => (q4 j (by omega)).trans (hEb j)), n4⟩, l4 hEl, Nat.le_refl _, .inr hm⟩
          have hw := hlE
          unfold logAt at hw
          rw [h.wfrom, h.wn, h.log] at hw
          have hld := hload E (fun j _ => hEb j)
          rw [h.log, h.size] at hld
          obtain ⟨_, _, cs, _, _, hcs, _⟩ := h.load
          unfold openF
          rw [hEn, if_neg (by have := h.n8; omega), if_neg (by simp [hEC.up]), hEC.now, hld]
          simp only
          rw [hw]
          simp only
          rw [if_neg (by omega), hcs]
          simp only
          rw [if_pos (by omega)]
          have e : (⟨1, lg D.n, F.w.gen, F.w.used, F.w.groups, 0⟩ : WLog) = F.w := by
            have a1 := h.wfrom; have a2 := h.wn; have a3 := h.wf; have a4 := h.log
            cases hF3 : F.w
            rw [hF3] at a1 a2 a3
            simp only at a1 a2 a3
            subst a1 a3
            rw [a2, a4]
          rw [e, if_pos e4, o4, h.log, h.size]
        · exact absurd hEl l4
    · have hne : r2.2 ≠ 0 := by rw [e2]; decide
      rw [if_neg hne]
      refine ⟨n2.trans n1, f2, ⟨rfl, rfl⟩, .inr ⟨e2, fun e => l2 (l1 e), e2, rfl, d2, fun keep => ⟨F, _, (hold _ (crash_calm f2 keep) (n2.trans n1) (fun j hj => ?_)).opens, rfl, by omega, .inl rfl⟩⟩⟩
      rw [q2 keep j (.inr (.inr rfl)), q1, lay_puts_far _ _ _ _ _ (by omega)]
  · have hne : r1.2 ≠ 0 := by rw [e1]; decide
    rw [if_neg hne, if_neg hne]
    exact ⟨n1, f1, ⟨rfl, rfl⟩, .inr ⟨e1, l1, e1, rfl, d1, fun keep => ⟨F, _, (hold _ (crash_calm f1 keep) n1 (fun j hj => q1 keep j (by omega))).opens, rfl, by omega, .inl rfl⟩⟩⟩
theorem commit_any {D : Dsk} {F : St} (h : Calm D F) (hgen : F.w.gen < 9223372036854775808) {l : List Chg} (hl : l.all Chg.may = true) (hr : used (made F.m l) ≤ F.room) : Commits D F l (commitS D F l) := by
  have hall : ∀ c ∈ l, c.may = true := List.all_eq_true.1 hl
  have hu := h.up.made l
  have hg := h.good.made h.up hall
  obtain ⟨g1, g2, g3⟩ := lg_sz h.n8
  have hlog := h.log; have hsize := h.size; have hwn := h.wn; have hwf := h.wfrom; have har := h.area
  have hF := h.disk.fine
  unfold commitS
  rw [if_neg (by simp [h.fault]), if_neg (by simp [hl]), if_neg (by omega)]
  by_cases hfit : F.fits (group l) = true
  · rw [if_pos hfit]
    unfold St.fits at hfit
    cases hge : groupE (group l) with
    | none => rw [hge] at hfit; cases hfit
    | some s =>
      rw [hge] at hfit
      have hfit : s.length / 64 ≤ F.w.n - 1 - F.w.used := by simpa using hfit
      have w1 := wappend_any h.disk h.wal h.wf (by omega) (by omega) hge (by omega)
      generalize wappend D F.w (group l) = r1 at *
      obtain ⟨num, A, cs, i1, i2, i3, i4⟩ := h.load
      rcases w1 with ⟨e1, o1, c1, n1, a1, q1, l1⟩ | ⟨e1, l1, o1, f1, d1, n1, q1⟩
      · rw [if_pos e1]
        refine ⟨n1, c1.fine, ⟨rfl, rfl⟩, .inl ⟨rfl, ?_, rfl, by rw [o1]; show F.w.gen ≤ _; omega, l1⟩⟩
        refine ⟨c1, by rw [n1]; exact h.n8, by show F.log = lg r1.1.n; rw [n1]; exact h.log, by show F.size = sz r1.1.n; rw [n1]; exact h.size, h.area, by rw [o1]; exact h.wfrom, by rw [o1]; exact h.wn, by rw [o1]; exact a1, by rw [o1]; exact h.wf, h.fault, hg, hu, hr, num, A, cs ++ [l], ?_, by rw [o1]; exact i2, ?_, ?_⟩
        · show loadS r1.1.base F.log F.size = some (F.area, num, A)
          have hb : 1 + F.log ≤ begin_ F.log F.size F.area := by unfold begin_; omega
          exact loadS_same i1 (q1 0 (by omega)) (fun j b c => q1 j (by omega))
        · rw [o1]
          show ungroups (F.w.groups ++ [group l]) = _
          rw [ungroups_snoc, i3, ungroup_group l hall]
          rfl
        · show made F.m l = _
          rw [madeAll_snoc, ← i4]
      · have hne : r1.2.2 ≠ 0 := by rw [e1]; decide
        rw [if_neg hne]
        refine ⟨n1, f1, ⟨rfl, rfl⟩, .inr ⟨e1, l1, e1, rfl, d1, fun keep => ⟨F, _, Calm.opens ?_, rfl, by omega, .inl rfl⟩⟩⟩
        have hb : 1 + F.log ≤ begin_ F.log F.size F.area := by unfold begin_; omega
        exact h.near (crash_calm f1 keep) n1 (q1 keep).1 (by cases F; rfl) h.wfrom rfl h.wf (Nat.le_refl _) rfl (fun j hj => (q1 keep).2 j (by omega))
  · rw [if_neg hfit]
    exact laid_any h hgen hu hg hr rfl
end Go.Proofs.YtoaihngckcbhiaaGreatDoor.Fil
