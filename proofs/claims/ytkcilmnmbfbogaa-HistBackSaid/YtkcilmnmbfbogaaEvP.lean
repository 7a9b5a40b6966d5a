/- Histories: the plain law of the events of opers: the sorted marks are what the document gathers time by time. No program in sight. -/
import Derived.Test.YtkcilmnmbfbogaaHistP
namespace Go.Proofs.Ytkcilmnmbfbogaa
set_option linter.unusedVariables false
set_option linter.unusedSimpArgs false

/-- A mark: its time, 0 or 1 (an answer), its oper, its event. -/
structure Mk where
  (tm bk o : Int)
  e : Ev
def mlt (x y : Mk) : Prop := x.tm < y.tm ∨ (x.tm = y.tm ∧ (x.bk < y.bk ∨ (x.bk = y.bk ∧ x.o < y.o)))
theorem mlt_irrefl (x : Mk) : ¬ mlt x x := by unfold mlt; omega
theorem mlt_trans {x y z : Mk} (h : mlt x y) (k : mlt y z) : mlt x z := by unfold mlt at *; omega

theorem sorted_unique : ∀ (a b : List Mk), a.Pairwise mlt → b.Pairwise mlt → a.Perm b → a = b
  | [], b, _, _, hp => (hp.nil_eq)
  | x :: a, [], _, _, hp => by have := hp.length_eq; simp at this
  | x :: a, y :: b, ha, hb, hp => by
    have hx : x = y := by
      by_cases e : x = y
      · exact e
      · exfalso
        have h1 : x ∈ y :: b := hp.mem_iff.1 (List.mem_cons_self ..)
        have h2 : y ∈ x :: a := hp.mem_iff.2 (List.mem_cons_self ..)
        have h3 : x ∈ b := by
          rcases List.mem_cons.1 h1 with h | h
          · exact absurd h e
          · exact h
        have h4 : y ∈ a := by
          rcases List.mem_cons.1 h2 with h | h
          · exact absurd h.symm e
          · exact h
        exact mlt_irrefl x (mlt_trans ((List.pairwise_cons.1 ha).1 y h4) ((List.pairwise_cons.1 hb).1 x h3))
    subst hx
    rw [sorted_unique a b (List.pairwise_cons.1 ha).2 (List.pairwise_cons.1 hb).2 (hp.cons_inv)]

def mk1 (o : Opp) (k : Nat) : List Mk := if o.fr < 0 then [] else ⟨o.fr, 0, k, ⟨o.th, false, o.c, av0⟩⟩ :: (if o.fin < 0 then [] else [⟨o.fin, 1, k, ⟨o.th, true, cv0, o.a⟩⟩])
/-- The marks of the first k opers. -/
def mks (l : List Opp) : Nat → List Mk
  | 0 => []
  | k + 1 => mks l k ++ (match l[k]? with | some o => mk1 o k | none => [])
theorem mk1_len (o : Opp) (k : Nat) : (mk1 o k).length ≤ 2 := by unfold mk1; split <;> simp; split <;> simp
theorem mks_len (l : List Opp) : ∀ k, (mks l k).length ≤ 2 * k
  | 0 => Nat.le_refl _
  | k + 1 => by
    have := mks_len l k
    rw [mks, List.length_append]
    cases l[k]? with
    | none => simp; omega
    | some o => have := mk1_len o k; dsimp only; omega
theorem mk1_mem {o : Opp} {k : Nat} {x : Mk} (h : x ∈ mk1 o k) : x.o = k ∧ 0 ≤ o.fr ∧ ((x.bk = 0 ∧ x.tm = o.fr) ∨ (x.bk = 1 ∧ x.tm = o.fin ∧ 0 ≤ o.fin)) := by
  unfold mk1 at h
  split at h
  · cases h
  · rename_i h0
    rcases List.mem_cons.1 h with rfl | h
    · exact ⟨rfl, by omega, .inl ⟨rfl, rfl⟩⟩
    · split at h
      · cases h
      · rename_i h1
        obtain rfl := List.mem_singleton.1 h
        exact ⟨rfl, by omega, .inr ⟨rfl, rfl, by omega⟩⟩
theorem mks_mem (l : List Opp) : ∀ (k : Nat) (x : Mk), x ∈ mks l k → ∃ (i : Nat) (o : Opp), i < k ∧ l[i]? = some o ∧ x ∈ mk1 o i
  | 0, x, h => by cases h
  | k + 1, x, h => by
    rw [mks, List.mem_append] at h
    rcases h with h | h
    · obtain ⟨i, o, hi, ho, hx⟩ := mks_mem l k x h
      exact ⟨i, o, by omega, ho, hx⟩
    · cases ho : l[k]? with
      | none => rw [ho] at h; cases h
      | some o => rw [ho] at h; exact ⟨k, o, by omega, ho, h⟩
theorem mem_mks (l : List Opp) {i : Nat} {o : Opp} (ho : l[i]? = some o) {x : Mk} (hx : x ∈ mk1 o i) : ∀ k, i < k → x ∈ mks l k
  | 0, h => by omega
  | k + 1, h => by
    rw [mks, List.mem_append]
    by_cases hi : i = k
    · subst hi
      right
      rw [ho]
      exact hx
    · exact .inl (mem_mks l ho hx k (by omega))
theorem mks_bk {l : List Opp} {k : Nat} {x : Mk} (h : x ∈ mks l k) : (x.bk = 0 ∨ x.bk = 1) ∧ 0 ≤ x.tm := by
  obtain ⟨i, o, _, _, hx⟩ := mks_mem l k x h
  have := mk1_mem hx
  omega
/-- They stand in the order of their opers. -/
def olt (x y : Mk) : Prop := x.o < y.o ∨ (x.o = y.o ∧ x.bk < y.bk)
theorem mk1_olt (o : Opp) (k : Nat) : (mk1 o k).Pairwise olt := by
  unfold mk1
  split
  · exact .nil
  · split
    · simp
    · simp [olt]
theorem mks_olt (l : List Opp) : ∀ k, (mks l k).Pairwise olt
  | 0 => .nil
  | k + 1 => by
    rw [mks]
    cases ho : l[k]? with
    | none => simpa using mks_olt l k
    | some o =>
      rw [List.pairwise_append]
      refine ⟨mks_olt l k, mk1_olt o k, fun x hx y hy => ?_⟩
      obtain ⟨i, o', hi, _, hx'⟩ := mks_mem l k x hx
      have h1 := (mk1_mem hx').1
      have h2 := (mk1_mem hy).1
      exact .inl (by rw [h1, h2]; omega)
/-- A sorted list of them: no later one is less. -/
theorem pair_of_sorted {M S : List Mk} (hp : S.Perm M) (ho : M.Pairwise olt) (hs : S.Pairwise fun x y => ¬ mlt y x) : S.Pairwise mlt := by
  have hne : M.Pairwise fun x y => ¬ (x.o = y.o ∧ x.bk = y.bk) := ho.imp fun h => by unfold olt at h; omega
  have hne' : S.Pairwise fun x y => ¬ (x.o = y.o ∧ x.bk = y.bk) := (hp.symm.pairwise_iff (fun h q => h ⟨q.1.symm, q.2.symm⟩)).1 hne
  exact hs.imp₂ (fun x y h1 h2 => by unfold mlt at *; omega) hne'

/-- What was gathered up to a time. -/
def gat (S : List Mk) (last : Int) : List Mk := S.filter fun x => decide (x.tm ≤ last)
def at0 (M : List Mk) (t : Int) : List Mk := M.filter fun x => decide (x.tm = t ∧ x.bk = 0)
def at1 (M : List Mk) (t : Int) : List Mk := M.filter fun x => decide (x.tm = t ∧ x.bk = 1)
theorem gat_step {M S : List Mk} (hp : S.Perm M) (ho : M.Pairwise olt) (hb : ∀ x, x ∈ M → x.bk = 0 ∨ x.bk = 1) (hs : S.Pairwise mlt) {last next : Int} (hln : last < next) (hno : ∀ x, x ∈ M → last < x.tm → next ≤ x.tm) :
    gat S next = gat S last ++ at0 M next ++ at1 M next := by
  refine sorted_unique _ _ (hs.filter _) ?_ ?_
  · rw [List.pairwise_append, List.pairwise_append]
    refine ⟨⟨hs.filter _, ?_, fun x hx y hy => ?_⟩, ?_, fun x hx y hy => ?_⟩
    · have := (ho.filter fun x => decide (x.tm = next ∧ x.bk = 0))
      refine List.Pairwise.imp_of_mem (fun {x y} hx hy h => ?_) this
      have h1 := of_decide_eq_true (List.mem_filter.1 hx).2
      have h2 := of_decide_eq_true (List.mem_filter.1 hy).2
      unfold olt at h
      unfold mlt
      omega
    · have h1 := of_decide_eq_true (List.mem_filter.1 hx).2
      have h2 := of_decide_eq_true (List.mem_filter.1 hy).2
      unfold mlt
      omega
    · have := (ho.filter fun x => decide (x.tm = next ∧ x.bk = 1))
      refine List.Pairwise.imp_of_mem (fun {x y} hx hy h => ?_) this
      have h1 := of_decide_eq_true (List.mem_filter.1 hx).2
      have h2 := of_decide_eq_true (List.mem_filter.1 hy).2
      unfold olt at h
      unfold mlt
      omega
    · have h2 := of_decide_eq_true (List.mem_filter.1 hy).2
      unfold mlt
      rcases List.mem_append.1 hx with hx | hx
      · have h1 := of_decide_eq_true (List.mem_filter.1 hx).2
        omega
      · have h1 := of_decide_eq_true (List.mem_filter.1 hx).2
        omega
  · have h1 : (gat S next).Perm (gat M next) := hp.filter _
    have h2 : (gat S last).Perm (gat M last) := hp.filter _
    refine h1.trans (.trans ?_ ((h2.symm.append_right _).append_right _))
    clear h1 h2 hs hp ho
    induction M with
    | nil => exact .nil
    | cons x r ih =>
      have ih := ih (fun y hy => hb y (List.mem_cons_of_mem _ hy)) (fun y hy => hno y (List.mem_cons_of_mem _ hy))
      have hx := hb x (List.mem_cons_self ..)
      have hn := hno x (List.mem_cons_self ..)
      unfold gat at0 at1 at *
      simp only [List.filter_cons]
      by_cases c1 : x.tm ≤ last
      · rw [if_pos (decide_eq_true (by omega)), if_pos (decide_eq_true c1), if_neg (by simp; omega), if_neg (by simp; omega)]
        simpa using ih.cons x
      · by_cases c2 : x.tm = next
        · rw [if_pos (decide_eq_true (by omega)), if_neg (by simpa using c1)]
          rcases hx with hx | hx
          · rw [if_pos (decide_eq_true ⟨c2, hx⟩), if_neg (by simp; omega)]
            rw [List.append_assoc, List.cons_append]
            exact (ih.cons x).trans (by rw [List.append_assoc]; exact List.perm_middle.symm)
          · rw [if_neg (by simp; omega), if_pos (decide_eq_true ⟨c2, hx⟩)]
            exact (ih.cons x).trans List.perm_middle.symm
        · rw [if_neg (by simp; omega), if_neg (by simp; omega), if_neg (by simp; omega), if_neg (by simp; omega)]
          exact ih
theorem gat_none {M S : List Mk} (hp : S.Perm M) (hb : ∀ x, x ∈ M → 0 ≤ x.tm) : gat S (-1) = [] := by
  unfold gat
  rw [List.filter_eq_nil_iff]
  intro x hx
  have := hb x (hp.mem_iff.1 hx)
  simp
  omega
theorem gat_all {S : List Mk} {last : Int} (h : ∀ x, x ∈ S → x.tm ≤ last) : gat S last = S := by
  unfold gat
  rw [List.filter_eq_self]
  intro x hx
  exact decide_eq_true (h x hx)

/-- The times that the document looks at. -/
def tms (l : List Opp) : Nat → List Int
  | 0 => []
  | k + 1 => tms l k ++ (match l[k]? with | some o => if o.fr < 0 then [] else [o.fr, o.fin] | none => [])
theorem tms_len (l : List Opp) : ∀ k, (tms l k).length ≤ 2 * k
  | 0 => Nat.le_refl _
  | k + 1 => by
    have := tms_len l k
    rw [tms, List.length_append]
    cases l[k]? with
    | none => simp; omega
    | some o => dsimp only; split <;> simp <;> omega
theorem tms_mem (l : List Opp) : ∀ (k : Nat) (t : Int), 0 ≤ t → (t ∈ tms l k ↔ ∃ x, x ∈ mks l k ∧ x.tm = t)
  | 0, t, _ => by simp [tms, mks]
  | k + 1, t, ht => by
    rw [tms, mks, List.mem_append, tms_mem l k t ht]
    cases ho : l[k]? with
    | none => simp
    | some o =>
      dsimp only
      simp only [List.mem_append]
      have key : (t ∈ (if o.fr < 0 then [] else [o.fr, o.fin]) ↔ ∃ x, x ∈ mk1 o k ∧ x.tm = t) := by
        unfold mk1
        split
        · simp
        · split
          · simp
            constructor
            · rintro (h | h)
              · exact h.symm
              · omega
            · intro h
              exact .inl h.symm
          · simp
            constructor
            · rintro (h | h)
              · exact .inl h.symm
              · exact .inr h.symm
            · rintro (h | h)
              · exact .inl h.symm
              · exact .inr h.symm
      rw [key]
      constructor
      · rintro (⟨x, h1, h2⟩ | ⟨x, h1, h2⟩)
        · exact ⟨x, .inl h1, h2⟩
        · exact ⟨x, .inr h1, h2⟩
      · rintro ⟨x, h1 | h1, h2⟩
        · exact .inl ⟨x, h1, h2⟩
        · exact .inr ⟨x, h1, h2⟩
/-- The least time behind last, of the first k; -1, where there is none. -/
def nxt (T : List Int) (last : Int) : Nat → Int
  | 0 => -1
  | k + 1 => match T[k]? with
    | some t => if last < t ∧ (nxt T last k < 0 ∨ t < nxt T last k) then t else nxt T last k
    | none => nxt T last k
theorem nxt_spec (T : List Int) {last : Int} (h0 : -1 ≤ last) : ∀ k, (nxt T last k = -1 ∧ ∀ i t, i < k → T[i]? = some t → t ≤ last) ∨ (last < nxt T last k ∧ nxt T last k ∈ T ∧ ∀ i t, i < k → T[i]? = some t → last < t → nxt T last k ≤ t)
  | 0 => .inl ⟨rfl, fun i t h => by omega⟩
  | k + 1 => by
    have ih := nxt_spec T h0 k
    rw [nxt]
    cases ht : T[k]? with
    | none =>
      have hl : ∀ i t, i < k + 1 → T[i]? = some t → i < k := fun i t hi hq => by
        by_cases e : i = k
        · subst e; rw [ht] at hq; cases hq
        · omega
      rcases ih with ⟨h1, h2⟩ | ⟨h1, h2, h3⟩
      · exact .inl ⟨h1, fun i t hi hq => h2 i t (hl i t hi hq) hq⟩
      · exact .inr ⟨h1, h2, fun i t hi hq => h3 i t (hl i t hi hq) hq⟩
    | some u =>
      dsimp only
      have hm : u ∈ T := List.mem_of_getElem? ht
      by_cases c : last < u ∧ (nxt T last k < 0 ∨ u < nxt T last k)
      · rw [if_pos c]
        refine .inr ⟨c.1, hm, fun i t hi hq hlt => ?_⟩
        by_cases e : i = k
        · subst e; rw [ht] at hq; cases hq; exact Int.le_refl _
        · rcases ih with ⟨h1, h2⟩ | ⟨h1, h2, h3⟩
          · have := h2 i t (by omega) hq; omega
          · have := h3 i t (by omega) hq hlt
            omega
      · rw [if_neg c]
        rcases ih with ⟨h1, h2⟩ | ⟨h1, h2, h3⟩
        · refine .inl ⟨h1, fun i t hi hq => ?_⟩
          by_cases e : i = k
          · subst e; rw [ht] at hq; cases hq; omega
          · exact h2 i t (by omega) hq
        · refine .inr ⟨h1, h2, fun i t hi hq hlt => ?_⟩
          by_cases e : i = k
          · subst e; rw [ht] at hq; cases hq; omega
          · exact h3 i t (by omega) hq hlt
/-- How many times are still to come. -/
def left_ (T : List Int) (last : Int) : Nat := (T.filter fun t => decide (last < t)).length
theorem left_less {T : List Int} {last next : Int} (hln : last < next) (hm : next ∈ T) : left_ T next < left_ T last := by
  unfold left_
  induction T with
  | nil => cases hm
  | cons t r ih =>
    simp only [List.filter_cons]
    have hle : ∀ r : List Int, (r.filter fun t => decide (next < t)).length ≤ (r.filter fun t => decide (last < t)).length := by
      intro r
      induction r with
      | nil => exact Nat.le_refl _
      | cons y s ihs =>
        simp only [List.filter_cons]
        by_cases c : next < y
        · rw [if_pos (decide_eq_true c), if_pos (decide_eq_true (by omega))]; simp; exact ihs
        · rw [if_neg (by simpa using c)]
          split
          · simp; omega
          · exact ihs
    rcases List.mem_cons.1 hm with rfl | hm
    · rw [if_neg (by simp), if_pos (decide_eq_true hln)]
      have := hle r
      simp
      omega
    · have ih := ih hm
      by_cases c : next < t
      · rw [if_pos (decide_eq_true c), if_pos (decide_eq_true (by omega))]; simp; exact ih
      · rw [if_neg (by simpa using c)]
        split
        · simp; omega
        · exact ih
/-- The document's step, and its end. -/
theorem gat_next {l : List Opp} {n : Nat} {S : List Mk} (hp : S.Perm (mks l n)) (hs : S.Pairwise mlt) {last next : Int} (h0 : -1 ≤ last) (hn : nxt (tms l n) last (tms l n).length = next) (hc : 0 ≤ next) :
    gat S next = gat S last ++ at0 (mks l n) next ++ at1 (mks l n) next ∧ last < next ∧ left_ (tms l n) next < left_ (tms l n) last := by
  rcases nxt_spec (tms l n) h0 (tms l n).length with ⟨h1, _⟩ | ⟨h1, h2, h3⟩
  · omega
  · rw [hn] at h1 h2 h3
    refine ⟨gat_step hp (mks_olt l n) (fun x hx => (mks_bk hx).1) hs h1 (fun x hx hlt => ?_), h1, left_less h1 h2⟩
    have hx0 := (mks_bk hx).2
    have hm := (tms_mem l n x.tm hx0).2 ⟨x, hx, rfl⟩
    obtain ⟨i, hi, hq⟩ := List.mem_iff_getElem.1 hm
    exact h3 i x.tm hi (by rw [List.getElem?_eq_getElem hi, hq]) hlt
theorem gat_end {l : List Opp} {n : Nat} {S : List Mk} (hp : S.Perm (mks l n)) {last : Int} (h0 : -1 ≤ last) (hn : nxt (tms l n) last (tms l n).length < 0) : gat S last = S := by
  refine gat_all fun x hx => ?_
  have hx := hp.mem_iff.1 hx
  rcases nxt_spec (tms l n) h0 (tms l n).length with ⟨h1, h2⟩ | ⟨h1, h2, h3⟩
  · have hm := (tms_mem l n x.tm (mks_bk hx).2).2 ⟨x, hx, rfl⟩
    obtain ⟨i, hi, hq⟩ := List.mem_iff_getElem.1 hm
    exact h2 i x.tm hi (by rw [List.getElem?_eq_getElem hi, hq])
  · omega
theorem at0_snoc {l : List Opp} {k : Nat} {o : Opp} (ho : l[k]? = some o) {t : Int} (ht : 0 ≤ t) : at0 (mks l (k + 1)) t = at0 (mks l k) t ++ (if o.fr = t then [⟨o.fr, 0, k, ⟨o.th, false, o.c, av0⟩⟩] else []) := by
  unfold at0
  rw [mks, ho, List.filter_append]
  congr 1
  dsimp only
  unfold mk1
  by_cases h1 : o.fr < 0
  · rw [if_pos h1, if_neg (by omega)]; rfl
  · rw [if_neg h1]
    by_cases h2 : o.fr = t
    · rw [if_pos h2]
      split <;> simp [h2]
    · rw [if_neg h2]
      split <;> simp [h2]
theorem at1_snoc {l : List Opp} {k : Nat} {o : Opp} (ho : l[k]? = some o) {t : Int} (ht : 0 ≤ t) : at1 (mks l (k + 1)) t = at1 (mks l k) t ++ (if 0 ≤ o.fr ∧ o.fin = t then [⟨o.fin, 1, k, ⟨o.th, true, cv0, o.a⟩⟩] else []) := by
  unfold at1
  rw [mks, ho, List.filter_append]
  congr 1
  dsimp only
  unfold mk1
  by_cases h1 : o.fr < 0
  · rw [if_pos h1, if_neg (by omega)]; rfl
  · rw [if_neg h1]
    by_cases h2 : o.fin = t
    · rw [if_neg (show ¬ o.fin < 0 by omega), if_pos (show 0 ≤ o.fr ∧ o.fin = t from ⟨by omega, h2⟩)]
      simp [h2]
    · rw [if_neg (show ¬ (0 ≤ o.fr ∧ o.fin = t) from fun q => h2 q.2)]
      split <;> simp [h2]
end Go.Proofs.Ytkcilmnmbfbogaa
