/- Histories: the plain law of opers: what is filled in as events come is what is found by looking ahead. No program in sight. -/
import Derived.Test.YtkcilmnmbfbogaaBase
namespace Go.Proofs.Ytkcilmnmbfbogaa
set_option linter.unusedVariables false
set_option linter.unusedSimpArgs false

/-- A call; an answer; an event; an oper. -/
structure CV where
  (op lv key a b h rg : Int)
deriving DecidableEq
structure AV where
  (er ra rb rh n k : Int)
deriving DecidableEq
def cv0 : CV := ⟨0, 0, 0, 0, 0, 0, 0⟩
def av0 : AV := ⟨0, 0, 0, 0, 0, 0⟩
structure Ev where
  th : Int
  bk : Bool
  c : CV
  a : AV
structure Opp where
  th : Int
  c : CV
  a : AV
  (fr fin : Int)

def rightE (e : Ev) : Bool := decide (0 ≤ e.th ∧ e.th ≤ 7) && (if e.bk = true then decide (e.c = cv0) else decide (e.a = av0))
/-- Is a thread within a call, behind these events? -/
def wi : List Ev → Int → Bool
  | [], _ => false
  | e :: r, t => if r.any (fun x => x.th == t) then wi r t else if e.th = t then !e.bk else false
/-- The last event of a thread. -/
theorem wi_snoc (l : List Ev) (e : Ev) (t : Int) : wi (l ++ [e]) t = if e.th = t then !e.bk else wi l t := by
  induction l with
  | nil => simp [wi]
  | cons x r ih =>
    rw [List.cons_append, wi, List.any_append]
    by_cases h : e.th = t
    · rw [if_pos h, if_pos (by simp [h]), ih, if_pos h]
    · rw [if_neg h, wi]
      have h1 : ([e].any fun x => x.th == t) = false := by simp [h]
      rw [h1, Bool.or_false]
      by_cases h2 : r.any (fun x => x.th == t) = true
      · rw [if_pos h2, if_pos h2, ih, if_neg h]
      · rw [if_neg h2, if_neg h2]
def okE (l : List Ev) (e : Ev) : Bool := rightE e && (wi l e.th == e.bk)
/-- Each event, behind those ahead, is right. -/
def okUp (l : List Ev) (k : Nat) : Prop := ∀ i e, i < k → l[i]? = some e → okE (l.take i) e = true
def calls (l : List Ev) : Nat := (l.filter fun e => !e.bk).length

/-- What answers event i: the first one of that thread behind it. -/
def ansr (t : Int) : List Ev → Nat → Option (Nat × AV)
  | [], _ => none
  | e :: r, k => if e.th = t then some (k, e.a) else ansr t r (k + 1)
theorem ansr_snoc (t : Int) (l : List Ev) (e : Ev) (k : Nat) : ansr t (l ++ [e]) k = match ansr t l k with
    | some x => some x
    | none => if e.th = t then some (k + l.length, e.a) else none := by
  induction l generalizing k with
  | nil => simp [ansr]
  | cons x r ih =>
    rw [List.cons_append, ansr, ansr]
    by_cases h : x.th = t
    · rw [if_pos h, if_pos h]
    · rw [if_neg h, if_neg h, ih]
      simp [show k + 1 + r.length = k + (r.length + 1) by omega]
theorem ansr_none (t : Int) (l : List Ev) (k : Nat) : ansr t l k = none ↔ ∀ e, e ∈ l → e.th ≠ t := by
  induction l generalizing k with
  | nil => simp [ansr]
  | cons x r ih =>
    rw [ansr]
    by_cases h : x.th = t
    · rw [if_pos h]; simp [h]
    · rw [if_neg h, ih]; simp [h]
def mkO (e : Ev) (i : Nat) (x : Option (Nat × AV)) : Opp := match x with
  | none => ⟨e.th, e.c, av0, i, -1⟩
  | some (k, a) => ⟨e.th, e.c, a, i, k⟩
/-- The opers, each by looking ahead. -/
def opersR : List Ev → Nat → List Opp
  | [], _ => []
  | e :: r, i => if e.bk = true then opersR r (i + 1) else mkO e i (ansr e.th r (i + 1)) :: opersR r (i + 1)
/-- The answer is filled in at the last oper of the thread. -/
def fill (t : Int) (k : Int) (a : AV) (l : List Opp) : List Opp := match l with
  | [] => []
  | o :: r => if r.any (fun x => x.th == t) then o :: fill t k a r else if o.th = t then { o with a := a, fin := k } :: r else o :: r
theorem opersR_any (l : List Ev) (t : Int) (i : Nat) : (opersR l i).any (fun x => x.th == t) = l.any (fun e => e.th == t && !e.bk) := by
  induction l generalizing i with
  | nil => rfl
  | cons e r ih =>
    rw [opersR, List.any_cons]
    cases hb : e.bk with
    | true => simp [ih]
    | false =>
      rw [if_neg (by simp), List.any_cons, ih]
      unfold mkO
      split <;> simp
/-- No thread but one that is within has an oper that isn't answered. -/
theorem opersR_call (l : List Ev) (e : Ev) (i : Nat) (hb : e.bk = false) (hw : wi l e.th = false) : opersR (l ++ [e]) i = opersR l i ++ [mkO e (i + l.length) none] := by
  induction l generalizing i with
  | nil => simp [opersR, hb, ansr]
  | cons x r ih =>
    have hr : wi r e.th = false := by
      rw [wi] at hw
      by_cases h2 : r.any (fun y => y.th == e.th) = true
      · rw [if_pos h2] at hw; exact hw
      · clear hw ih
        induction r with
        | nil => rfl
        | cons y s ihs =>
          simp at h2
          rw [wi, if_neg (by simp; exact h2.2), if_neg h2.1]
    have hi := ih (i + 1) hr
    rw [List.cons_append, opersR, opersR]
    cases hxb : x.bk with
    | true =>
      rw [if_pos rfl, if_pos rfl, hi]
      simp [show i + 1 + r.length = i + (r.length + 1) by omega]
    | false =>
      rw [if_neg (by simp), if_neg (by simp), hi, ansr_snoc]
      have : (match ansr x.th r (i + 1) with | some x => some x | none => if e.th = x.th then some (i + 1 + r.length, e.a) else none) = ansr x.th r (i + 1) := by
        cases ha : ansr x.th r (i + 1) with
        | some y => rfl
        | none =>
          have hn := (ansr_none _ _ _).1 ha
          by_cases hx : e.th = x.th
          · rw [wi, if_neg (by simp; intro z hz q; exact hn z hz (q.trans hx)), if_pos hx.symm, hxb] at hw
            simp at hw
          · simp [hx]
      rw [this]
      simp [show i + 1 + r.length = i + (r.length + 1) by omega]
theorem wi_any (l : List Ev) (t : Int) (h : wi l t = true) : l.any (fun e => e.th == t && !e.bk) = true := by
  induction l with
  | nil => simp [wi] at h
  | cons x r ih =>
    rw [wi] at h
    by_cases h2 : r.any (fun y => y.th == t) = true
    · rw [if_pos h2] at h
      rw [List.any_cons, ih h, Bool.or_true]
    · rw [if_neg h2] at h
      by_cases hx : x.th = t
      · rw [if_pos hx] at h
        rw [List.any_cons]
        simp [hx]
        simp at h
        exact .inl h
      · rw [if_neg hx] at h
        cases h
theorem opersR_other (r : List Ev) (e : Ev) (i : Nat) (hb : e.bk = true) (hn : ∀ y, y ∈ r → y.th ≠ e.th) : opersR (r ++ [e]) i = opersR r i := by
  induction r generalizing i with
  | nil => simp [opersR, hb]
  | cons x r ih =>
    have hi := ih (i + 1) (fun y hy => hn y (List.mem_cons_of_mem _ hy))
    rw [List.cons_append, opersR, opersR, hi, ansr_snoc]
    have hx := hn x (List.mem_cons_self ..)
    have : (match ansr x.th r (i + 1) with | some x => some x | none => if e.th = x.th then some (i + 1 + r.length, e.a) else none) = ansr x.th r (i + 1) := by
      cases ha : ansr x.th r (i + 1) with
      | some y => rfl
      | none => simp; exact fun q => absurd q.symm hx
    rw [this]
theorem mkO_th (x : Ev) (i : Nat) (y : Option (Nat × AV)) : (mkO x i y).th = x.th := by unfold mkO; split <;> rfl
theorem opersR_back (l : List Ev) (e : Ev) (i : Nat) (hb : e.bk = true) (hw : wi l e.th = true) : opersR (l ++ [e]) i = fill e.th ((i + l.length : Nat) : Int) e.a (opersR l i) := by
  induction l generalizing i with
  | nil => simp [wi] at hw
  | cons x r ih =>
    have hw0 := hw
    rw [wi] at hw
    rw [List.cons_append, opersR, opersR]
    by_cases h2 : r.any (fun y => y.th == e.th) = true
    · rw [if_pos h2] at hw
      have hi := ih (i + 1) hw
      rw [show i + 1 + r.length = i + (x :: r).length by simp; omega] at hi
      cases hxb : x.bk with
      | true => rw [if_pos rfl, if_pos rfl, hi]
      | false =>
        rw [if_neg (by simp), if_neg (by simp), hi, fill, if_pos (by rw [opersR_any]; exact wi_any r _ hw), ansr_snoc]
        have : (match ansr x.th r (i + 1) with | some x => some x | none => if e.th = x.th then some (i + 1 + r.length, e.a) else none) = ansr x.th r (i + 1) := by
          cases ha : ansr x.th r (i + 1) with
          | some y => rfl
          | none =>
            have hn := (ansr_none _ _ _).1 ha
            by_cases hx : e.th = x.th
            · obtain ⟨z, hz, hq⟩ := List.any_eq_true.1 h2
              exact absurd (by simpa [hx] using hq) (hn z hz)
            · simp [hx]
        rw [this]
    · rw [if_neg h2] at hw
      have hxt : x.th = e.th := by
        by_cases hx : x.th = e.th
        · exact hx
        · rw [if_neg hx] at hw; cases hw
      rw [if_pos hxt] at hw
      have hxb : x.bk = false := by simpa using hw
      have hn : ∀ y, y ∈ r → y.th ≠ e.th := fun y hy q => h2 (List.any_eq_true.2 ⟨y, hy, by simp [q]⟩)
      rw [hxb, if_neg (by simp), if_neg (by simp), opersR_other r e (i + 1) hb hn, fill, if_neg (by
        rw [opersR_any]
        intro q
        obtain ⟨z, hz, hq⟩ := List.any_eq_true.1 q
        simp at hq
        exact hn z hz hq.1), if_pos (by rw [mkO_th]; exact hxt), ansr_snoc]
      have ha : ansr x.th r (i + 1) = none := (ansr_none _ _ _).2 (fun y hy => by rw [hxt]; exact hn y hy)
      rw [ha]
      simp only [hxt.symm, if_true]
      unfold mkO
      simp only [List.cons.injEq, and_true]
      rw [show i + 1 + r.length = i + (x :: r).length by simp; omega]
end Go.Proofs.Ytkcilmnmbfbogaa
