/- Histories: the plain law of the opers as they are filled in; where each thread's last one is; what the document's loop gathers. No program in sight. -/
import Derived.Test.YtkcilmnmbfbogaaHistC
namespace Go.Proofs.Ytkcilmnmbfbogaa
set_option linter.unusedVariables false
set_option linter.unusedSimpArgs false
open Go.RowKit

/-- The place of a thread's last oper; 0, where there is none. -/
def lst (t : Int) : List Opp → Nat
  | [] => 0
  | _ :: r => if r.any (fun x => x.th == t) then lst t r + 1 else 0
theorem lst_snoc (t : Int) (l : List Opp) (x : Opp) : lst t (l ++ [x]) = if x.th = t then l.length else lst t l := by
  induction l with
  | nil => simp [lst]
  | cons y r ih =>
    rw [List.cons_append, lst, List.any_append, ih, lst]
    by_cases h : x.th = t
    · rw [if_pos h, if_pos h, if_pos (by simp [h])]
      simp
    · rw [if_neg h, if_neg h]
      have : ([x].any fun x => x.th == t) = false := by simp [h]
      rw [this, Bool.or_false]
theorem any_th (t : Int) : ∀ (l l' : List Opp), l.map Opp.th = l'.map Opp.th → l.any (fun x => x.th == t) = l'.any (fun x => x.th == t)
  | [], [], _ => rfl
  | [], _ :: _, h => by simp at h
  | _ :: _, [], h => by simp at h
  | x :: r, y :: s, h => by
    simp only [List.map_cons, List.cons.injEq] at h
    rw [List.any_cons, List.any_cons, any_th t r s h.2, h.1]
theorem lst_th (t : Int) : ∀ (l l' : List Opp), l.map Opp.th = l'.map Opp.th → lst t l = lst t l'
  | [], [], _ => rfl
  | [], _ :: _, h => by simp at h
  | _ :: _, [], h => by simp at h
  | x :: r, y :: s, h => by
    simp only [List.map_cons, List.cons.injEq] at h
    rw [lst, lst, any_th t r s h.2, lst_th t r s h.2]
theorem fill_set (t k : Int) (a : AV) : ∀ (l : List Opp), l.any (fun x => x.th == t) = true → ∃ o, l[lst t l]? = some o ∧ o.th = t ∧ fill t k a l = l.set (lst t l) { o with a := a, fin := k }
  | [], h => by simp at h
  | x :: r, h => by
    rw [lst, fill]
    by_cases h2 : r.any (fun x => x.th == t) = true
    · obtain ⟨o, h3, h4, h5⟩ := fill_set t k a r h2
      rw [if_pos h2, if_pos h2]
      exact ⟨o, by simpa using h3, h4, by rw [h5]; rfl⟩
    · rw [if_neg h2, if_neg h2]
      rw [List.any_cons] at h
      have hx : x.th = t := by simpa [h2] using h
      exact ⟨x, rfl, hx, by rw [if_pos hx]; rfl⟩
theorem set_th {l : List Opp} {i : Nat} {o : Opp} (h : l[i]? = some o) (a : AV) (k : Int) : (l.set i { o with a := a, fin := k }).map Opp.th = l.map Opp.th := by
  rw [List.map_set]
  apply List.ext_getElem?
  intro j
  rw [List.getElem?_set]
  by_cases hij : i = j
  · subst hij
    have hl := (List.getElem?_eq_some_iff.1 h).1
    rw [if_pos rfl, List.length_map, if_pos hl, List.getElem?_map, h]
    rfl
  · rw [if_neg hij]
/-- The eight threads' last opers. -/
def lasts (l : List Opp) : List Value := (List.range 8).map fun (j : Nat) => .int .i64 (lst (j : Int) l : Nat)
theorem lasts_nil : lasts [] = [.int .i64 0, .int .i64 0, .int .i64 0, .int .i64 0, .int .i64 0, .int .i64 0, .int .i64 0, .int .i64 0] := rfl
theorem lasts_get (l : List Opp) {j : Nat} (hj : j < 8) : (lasts l)[j]? = some (.int .i64 (lst (j : Int) l : Nat)) := by
  unfold lasts
  rw [List.getElem?_map, List.getElem?_range hj]
  rfl
theorem lasts_snoc (l : List Opp) (x : Opp) {j : Nat} (hj : j < 8) (h : x.th = (j : Int)) : (lasts l).toArray.setIfInBounds j (.int .i64 (l.length : Nat)) = (lasts (l ++ [x])).toArray := by
  rw [List.setIfInBounds_toArray]
  congr 1
  apply List.ext_getElem?
  intro i
  by_cases hi : i < 8
  · rw [List.getElem?_set, lasts_get l hi, lasts_get (l ++ [x]) hi, lst_snoc, h]
    by_cases hij : j = i
    · subst hij
      simp [lasts, hj]
    · rw [if_neg hij, if_neg (by omega)]
  · rw [List.getElem?_eq_none (by simp [lasts]; omega), List.getElem?_eq_none (by simp [lasts]; omega)]
theorem lasts_th {l l' : List Opp} (h : l.map Opp.th = l'.map Opp.th) : lasts l = lasts l' := by
  unfold lasts
  congr 1
  funext j
  rw [lst_th (j : Int) l l' h]
theorem opersR_len (l : List Ev) : ∀ i, (opersR l i).length = calls l := by
  unfold calls
  induction l with
  | nil => intro i; rfl
  | cons e r ih =>
    intro i
    rw [opersR]
    cases hb : e.bk with
    | true => rw [if_pos rfl, ih, List.filter_cons]; simp [hb]
    | false => rw [if_neg (by simp), List.length_cons, ih, List.filter_cons]; simp [hb]
theorem opers_any {l : List Ev} {t : Int} (h : wi l t = true) : (opersR l 0).any (fun x => x.th == t) = true := by
  rw [opersR_any]
  exact wi_any l t h
theorem flat_sets {α : Type} {f : α → List Value} {s : Nat} (hf : ∀ y, (f y).length = s) : ∀ (l : List α) (q i : Nat) (x x' : α) (v : Value), l[q]? = some x → i < s → f x' = (f x).set i v → (l.flatMap f).set (q * s + i) v = (l.set q x').flatMap f
  | [], q, i, x, x', v, h, _, _ => by simp at h
  | y :: r, 0, i, x, x', v, h, hi, hx => by
    have hxy : y = x := by simpa using h
    subst hxy
    rw [List.flatMap_cons, Nat.zero_mul, Nat.zero_add, List.set_append_left _ _ (by rw [hf]; exact hi), List.set_cons_zero, List.flatMap_cons, hx]
  | y :: r, q + 1, i, x, x', v, h, hi, hx => by
    have e : (q + 1) * s + i = s + (q * s + i) := by rw [Nat.add_mul]; omega
    rw [List.flatMap_cons, List.set_append_right _ _ (by rw [hf, e]; omega), hf, e, show s + (q * s + i) - s = q * s + i by omega,
      flat_sets hf r q i x x' v (by simpa using h) hi hx, List.set_cons_succ, List.flatMap_cons]
/-- The seven stores of an answer. -/
theorem fill7 {L : List Opp} {p : Nat} {o : Opp} (h : L[p]? = some o) (a : AV) (k : Int) :
    ((((((((L.flatMap opc).set (p * 16 + 8) (.int .i64 a.er)).set (p * 16 + 9) (.int .u64 a.ra)).set (p * 16 + 10) (.int .u64 a.rb)).set (p * 16 + 11) (.int .u64 a.rh)).set (p * 16 + 12) (.int .i64 a.n)).set (p * 16 + 13) (.int .i64 a.k)).set (p * 16 + 15) (.int .i64 k)) = (L.set p { o with a := a, fin := k }).flatMap opc := by
  have hp := (List.getElem?_eq_some_iff.1 h).1
  have q : ∀ x : Opp, (L.set p x)[p]? = some x := fun x => by rw [List.getElem?_set_self hp]
  obtain ⟨th, c, ⟨er, ra, rb, rh, n, kk⟩, fr, fin⟩ := o
  rw [flat_sets opc_len L p 8 _ ⟨th, c, ⟨a.er, ra, rb, rh, n, kk⟩, fr, fin⟩ _ h (by decide) rfl,
    flat_sets opc_len (L.set p ⟨th, c, ⟨a.er, ra, rb, rh, n, kk⟩, fr, fin⟩) p 9 ⟨th, c, ⟨a.er, ra, rb, rh, n, kk⟩, fr, fin⟩ ⟨th, c, ⟨a.er, a.ra, rb, rh, n, kk⟩, fr, fin⟩ (.int .u64 a.ra) (q _) (by decide) rfl, List.set_set,
    flat_sets opc_len (L.set p ⟨th, c, ⟨a.er, a.ra, rb, rh, n, kk⟩, fr, fin⟩) p 10 ⟨th, c, ⟨a.er, a.ra, rb, rh, n, kk⟩, fr, fin⟩ ⟨th, c, ⟨a.er, a.ra, a.rb, rh, n, kk⟩, fr, fin⟩ (.int .u64 a.rb) (q _) (by decide) rfl, List.set_set,
    flat_sets opc_len (L.set p ⟨th, c, ⟨a.er, a.ra, a.rb, rh, n, kk⟩, fr, fin⟩) p 11 ⟨th, c, ⟨a.er, a.ra, a.rb, rh, n, kk⟩, fr, fin⟩ ⟨th, c, ⟨a.er, a.ra, a.rb, a.rh, n, kk⟩, fr, fin⟩ (.int .u64 a.rh) (q _) (by decide) rfl, List.set_set,
    flat_sets opc_len (L.set p ⟨th, c, ⟨a.er, a.ra, a.rb, a.rh, n, kk⟩, fr, fin⟩) p 12 ⟨th, c, ⟨a.er, a.ra, a.rb, a.rh, n, kk⟩, fr, fin⟩ ⟨th, c, ⟨a.er, a.ra, a.rb, a.rh, a.n, kk⟩, fr, fin⟩ (.int .i64 a.n) (q _) (by decide) rfl, List.set_set,
    flat_sets opc_len (L.set p ⟨th, c, ⟨a.er, a.ra, a.rb, a.rh, a.n, kk⟩, fr, fin⟩) p 13 ⟨th, c, ⟨a.er, a.ra, a.rb, a.rh, a.n, kk⟩, fr, fin⟩ ⟨th, c, ⟨a.er, a.ra, a.rb, a.rh, a.n, a.k⟩, fr, fin⟩ (.int .i64 a.k) (q _) (by decide) rfl, List.set_set,
    flat_sets opc_len (L.set p ⟨th, c, ⟨a.er, a.ra, a.rb, a.rh, a.n, a.k⟩, fr, fin⟩) p 15 ⟨th, c, ⟨a.er, a.ra, a.rb, a.rh, a.n, a.k⟩, fr, fin⟩ ⟨th, c, ⟨a.er, a.ra, a.rb, a.rh, a.n, a.k⟩, fr, k⟩ (.int .i64 k) (q _) (by decide) rfl, List.set_set]
theorem own_formx {w : World} {base : Nat} {e : TypeId} {s n c : Nat} {A : Option Addr} {xs : List Value} (h : w.ownsRow base e s (.slice A n c) n xs) (hn : 0 < n) :
    ∃ g, A = some ⟨g, 0, none⟩ ∧ base ≤ g ∧ g < w.heap.size ∧ (∀ k, w.frozen? ⟨g, k, none⟩ = false) ∧ ∀ k u, xs[k]? = some u → w.cell? ⟨g, k, none⟩ = some u := by
  have hc := Rd.of_own h
  rcases h.2 with ⟨hv, h0⟩ | ⟨g, cap, cur, hv, hg, hh, _⟩
  · omega
  · cases hv
    refine ⟨g, rfl, hg, Blk.lt hh, fun k => Blk.frozen hh k, fun k u hk => ?_⟩
    have := hc.some_ k u hk
    rwa [ad_flat] at this
theorem own_putx {w : World} {base : Nat} {e : TypeId} {s g n c : Nat} {xs : List Value} (h : w.ownsRow base e s (.slice (some ⟨g, 0, none⟩) n c) n xs) (k : Nat) (u : Value) :
    (w.setCell ⟨g, k, none⟩ u).ownsRow base e s (.slice (some ⟨g, 0, none⟩) n c) n (xs.set k u) := by
  rcases h.2 with ⟨hv, _⟩ | ⟨g', cap, cur, hv, hg, hh, hn, hm, hs, hx⟩
  · cases hv
  · cases hv
    refine ⟨by rw [List.length_set]; exact h.1, .inr ⟨g, c, cur.setIfInBounds k u, rfl, hg, Blk.set_ hh k u, hn, hm, by simpa using hs, ?_⟩⟩
    rw [← hx, Array.toList_setIfInBounds, List.take_set]

/-- What the document's loop has gathered: of the events up to i those that are calls, each answered by looking ahead. -/
def opP (l : List Ev) : Nat → List Opp
  | 0 => []
  | i + 1 => opP l i ++ (match l[i]? with | some e => if e.bk = true then [] else [mkO e i (ansr e.th (l.drop (i + 1)) (i + 1))] | none => [])
theorem opP_all (l : List Ev) : ∀ i, i ≤ l.length → opP l i ++ opersR (l.drop i) i = opersR l 0
  | 0, _ => by simp [opP]
  | i + 1, h => by
    have ih := opP_all l i (by omega)
    rw [← ih, opP, List.append_assoc]
    congr 1
    rw [List.getElem?_eq_getElem (by omega), List.drop_eq_getElem_cons (by omega : i < l.length), opersR]
    dsimp only
    split <;> simp
theorem opP_end {l : List Ev} {n : Nat} (h : l.length = n) : opP l n = opersR l 0 := by
  have := opP_all l n (by omega)
  rw [List.drop_eq_nil_of_le (by omega)] at this
  simpa [opersR] using this
theorem opP_len (l : List Ev) : ∀ i, (opP l i).length ≤ i
  | 0 => Nat.le_refl _
  | i + 1 => by
    have := opP_len l i
    rw [opP, List.length_append]
    cases l[i]? with
    | none => simp; omega
    | some o => dsimp only; split <;> simp <;> omega
theorem ansr_app_some (t : Int) (l r : List Ev) (k : Nat) (x : Nat × AV) (h : ansr t l k = some x) : ansr t (l ++ r) k = some x := by
  induction l generalizing k with
  | nil => simp [ansr] at h
  | cons y s ih =>
    rw [List.cons_append, ansr]
    rw [ansr] at h
    by_cases hy : y.th = t
    · rw [if_pos hy] at h ⊢; exact h
    · rw [if_neg hy] at h ⊢; exact ih _ h
theorem ansr_take (t : Int) (l : List Ev) (j k : Nat) (x : Nat × AV) (h : ansr t (l.take j) k = some x) : ansr t l k = some x := by
  have := ansr_app_some t (l.take j) (l.drop j) k x h
  rwa [List.take_append_drop] at this
/-- Cells from place k on, changed one by one. -/
def setL (xs : List Value) : Nat → List Value → List Value
  | _, [] => xs
  | k, v :: r => setL (xs.set k v) (k + 1) r
theorem own_setCells {base : Nat} {e : TypeId} {s g n c : Nat} : ∀ (vs : List Value) (k : Nat) (w : World) (xs : List Value), w.ownsRow base e s (.slice (some ⟨g, 0, none⟩) n c) n xs →
    (w.setCells g k vs).ownsRow base e s (.slice (some ⟨g, 0, none⟩) n c) n (setL xs k vs)
  | [], _, _, _, h => h
  | v :: r, k, w, xs, h => own_setCells r (k + 1) (w.setCell ⟨g, k, none⟩ v) (xs.set k v) (own_putx h k v)
theorem keeps_setCells {S : Nat → Prop} {g : Nat} (hg : S g) : ∀ (vs : List Value) (k : Nat) (w0 w : World), Keeps S w0 w → Keeps S w0 (w.setCells g k vs)
  | [], _, _, _, h => h
  | v :: r, k, w0, w, h => keeps_setCells hg r (k + 1) w0 _ (h.setCell (p := ⟨g, k, none⟩) (fun _ => hg) v)
theorem fill6 {L : List Opp} {p : Nat} {o : Opp} (h : L[p]? = some o) (a : AV) (k : Int) :
    (setL (L.flatMap opc) (p * 16 + 8) (avc a)).set (p * 16 + 15) (.int .i64 k) = (L.set p { o with a := a, fin := k }).flatMap opc := fill7 h a k
end Go.Proofs.Ytkcilmnmbfbogaa
