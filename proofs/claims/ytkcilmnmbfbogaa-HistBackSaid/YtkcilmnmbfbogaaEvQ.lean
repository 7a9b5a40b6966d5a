/- Histories: the plain law of stage 14: the events of a history's opers are that history; opers of one thread stand one ahead of the other. No program in sight. -/
import Derived.Test.YtkcilmnmbfbogaaEvP
import Derived.Test.YtkcilmnmbfbogaaHistF
namespace Go.Proofs.Ytkcilmnmbfbogaa
set_option linter.unusedVariables false
set_option linter.unusedSimpArgs false

theorem lst_last (t : Int) : ∀ (L : List Opp) (j : Nat) (o : Opp), L[j]? = some o → o.th = t → j ≤ lst t L
  | [], j, o, h, _ => by simp at h
  | x :: r, 0, o, h, ht => Nat.zero_le _
  | x :: r, j + 1, o, h, ht => by
    have h' : r[j]? = some o := by simpa using h
    have := lst_last t r j o h' ht
    rw [lst, if_pos (List.any_eq_true.2 ⟨o, List.mem_of_getElem? h', by simp [ht]⟩)]
    omega
theorem mks_pre (L : List Opp) (x : List Opp) : ∀ k, k ≤ L.length → mks (L ++ x) k = mks L k
  | 0, _ => rfl
  | k + 1, h => by
    rw [mks, mks, mks_pre L x k (by omega), List.getElem?_append_left (by omega)]
theorem mks_set {L : List Opp} {p : Nat} {o : Opp} (hp : L[p]? = some o) (o' : Opp) : ∀ k, k ≤ p → mks (L.set p o') k = mks L k
  | 0, _ => rfl
  | k + 1, h => by
    rw [mks, mks, mks_set hp o' k (by omega), List.getElem?_set, if_neg (by omega)]
theorem mks_fill {L : List Opp} {p : Nat} {o o' : Opp} (hp : L[p]? = some o) (m : List Mk) (hm : mk1 o' p = mk1 o p ++ m) : ∀ k, p < k → (mks (L.set p o') k).Perm (mks L k ++ m)
  | 0, h => by omega
  | k + 1, h => by
    rw [mks, mks]
    by_cases hk : k = p
    · subst hk
      rw [mks_set hp o' k (Nat.le_refl _), List.getElem?_set, if_pos rfl, if_pos (List.getElem?_eq_some_iff.1 hp).1, hp]
      dsimp only
      rw [hm, List.append_assoc]
    · rw [List.getElem?_set, if_neg (fun e => hk e.symm)]
      have ih := mks_fill hp m hm k (by omega)
      rw [List.append_assoc]
      exact (ih.append_right _).trans (by rw [List.append_assoc]; exact List.perm_append_comm.append_left _)

/-- What holds of the opers of the first k events. -/
structure Inv (l : List Ev) (k : Nat) (L : List Opp) : Prop where
  a : ∀ o, o ∈ L → 0 ≤ o.fr ∧ o.fr < k ∧ (o.fin = -1 ∨ (o.fr < o.fin ∧ o.fin < k))
  b : ∀ (i j : Nat) (x y : Opp), i < j → L[i]? = some x → L[j]? = some y → x.fr < y.fr ∧ (x.th = y.th → 0 ≤ x.fin ∧ x.fin < y.fr)
  c0 : ∀ t, wi (l.take k) t = false → ∀ o, o ∈ L → o.th = t → 0 ≤ o.fin
  c1 : ∀ t, wi (l.take k) t = true → ∃ o, L[lst t L]? = some o ∧ o.th = t ∧ o.fin = -1
  d : ∃ T : List Mk, T.map Mk.e = l.take k ∧ (∀ (i : Nat) (x : Mk), T[i]? = some x → x.tm = i) ∧ T.Perm (mks L L.length)
theorem inv_zero (l : List Ev) : Inv l 0 (opersR (l.take 0) 0) := by
  refine ⟨(fun o h => by cases h), (fun i j x y _ h _ => by simp [opersR] at h), (fun t _ o h => by cases h), (fun t h => by simp [wi] at h), ⟨[], rfl, (fun i x h => by simp at h), .nil⟩⟩
theorem inv_call {l : List Ev} {k : Nat} {e : Ev} (he : l[k]? = some e) (hb : e.bk = false) (hw : wi (l.take k) e.th = false) (ha : e.a = av0) (h : Inv l k (opersR (l.take k) 0)) : Inv l (k + 1) (opersR (l.take (k + 1)) 0) := by
  have hk : k < l.length := (List.getElem?_eq_some_iff.1 he).1
  have ht : l.take (k + 1) = l.take k ++ [e] := by rw [List.take_add_one, he]; rfl
  have hL : opersR (l.take (k + 1)) 0 = opersR (l.take k) 0 ++ [⟨e.th, e.c, av0, k, -1⟩] := by
    rw [ht, opersR_call _ _ _ hb hw, Nat.zero_add, List.length_take, Nat.min_eq_left (by omega)]
    rfl
  rw [hL]
  generalize opersR (l.take k) 0 = L at *
  refine ⟨fun o ho => ?_, fun i j x y hij hx hy => ?_, fun t hwt o ho hot => ?_, fun t hwt => ?_, ?_⟩
  · rcases List.mem_append.1 ho with ho | ho
    · have := h.a o ho
      omega
    · obtain rfl := List.mem_singleton.1 ho
      dsimp only
      omega
  · have hi : i < L.length := by
      have := (List.getElem?_eq_some_iff.1 hy).1
      simp at this
      omega
    rw [List.getElem?_append_left hi] at hx
    by_cases hj : j < L.length
    · rw [List.getElem?_append_left hj] at hy
      exact h.b i j x y hij hx hy
    · have hjl : j = L.length := by
        have := (List.getElem?_eq_some_iff.1 hy).1
        simp at this
        omega
      subst hjl
      rw [List.getElem?_append_right (Nat.le_refl _), Nat.sub_self] at hy
      cases hy
      have hxm := List.mem_of_getElem? hx
      have h1 := h.a x hxm
      refine ⟨by dsimp only; omega, fun hth => ?_⟩
      have h2 := h.c0 e.th hw x hxm hth
      dsimp only
      omega
  · rw [ht, wi_snoc] at hwt
    by_cases hth : e.th = t
    · rw [if_pos hth, hb] at hwt
      cases hwt
    · rw [if_neg hth] at hwt
      rcases List.mem_append.1 ho with ho | ho
      · exact h.c0 t hwt o ho hot
      · obtain rfl := List.mem_singleton.1 ho
        exact absurd hot hth
  · rw [ht, wi_snoc] at hwt
    rw [lst_snoc]
    by_cases hth : e.th = t
    · rw [if_pos hth]
      exact ⟨_, by rw [List.getElem?_append_right (Nat.le_refl _), Nat.sub_self]; rfl, hth, rfl⟩
    · rw [if_neg hth] at hwt
      rw [if_neg hth]
      obtain ⟨o, h1, h2, h3⟩ := h.c1 t hwt
      exact ⟨o, by rw [List.getElem?_append_left (List.getElem?_eq_some_iff.1 h1).1]; exact h1, h2, h3⟩
  · obtain ⟨T, h1, h2, h3⟩ := h.d
    have hTl : T.length = k := by
      have := congrArg List.length h1
      simp at this
      omega
    refine ⟨T ++ [⟨k, 0, L.length, ⟨e.th, false, e.c, av0⟩⟩], ?_, fun i x hx => ?_, ?_⟩
    · rw [List.map_append, h1, ht]
      congr 1
      obtain ⟨th, bk, c, a⟩ := e
      dsimp only at hb ha
      subst hb ha
      rfl
    · by_cases hi : i < T.length
      · rw [List.getElem?_append_left hi] at hx
        exact h2 i x hx
      · have hil : i = T.length := by
          have := (List.getElem?_eq_some_iff.1 hx).1
          simp at this
          omega
        subst hil
        rw [List.getElem?_append_right (Nat.le_refl _), Nat.sub_self] at hx
        cases hx
        dsimp only
        omega
    · rw [List.length_append, List.length_singleton, mks, mks_pre L _ L.length (Nat.le_refl _), List.getElem?_append_right (Nat.le_refl _), Nat.sub_self]
      have : mk1 ⟨e.th, e.c, av0, k, -1⟩ L.length = [⟨k, 0, L.length, ⟨e.th, false, e.c, av0⟩⟩] := by
        unfold mk1
        rw [if_neg (by dsimp only; omega), if_pos (by dsimp only; omega)]
      show (T ++ _).Perm (mks L L.length ++ mk1 ⟨e.th, e.c, av0, k, -1⟩ L.length)
      rw [this]
      exact h3.append_right _
theorem inv_back {l : List Ev} {k : Nat} {e : Ev} (he : l[k]? = some e) (hb : e.bk = true) (hw : wi (l.take k) e.th = true) (hc : e.c = cv0) (h : Inv l k (opersR (l.take k) 0)) : Inv l (k + 1) (opersR (l.take (k + 1)) 0) := by
  have hk : k < l.length := (List.getElem?_eq_some_iff.1 he).1
  have ht : l.take (k + 1) = l.take k ++ [e] := by rw [List.take_add_one, he]; rfl
  obtain ⟨o, hp, hot, hfs⟩ := fill_set e.th ((0 + (l.take k).length : Nat) : Int) e.a (opersR (l.take k) 0) (opers_any hw)
  have hL : opersR (l.take (k + 1)) 0 = (opersR (l.take k) 0).set (lst e.th (opersR (l.take k) 0)) { o with a := e.a, fin := (k : Int) } := by
    rw [ht, opersR_back _ _ _ hb hw, hfs]
    simp only [Nat.zero_add, List.length_take, Nat.min_eq_left (by omega : k ≤ l.length)]
  obtain ⟨o1, q1, q2, q3⟩ := h.c1 e.th hw
  rw [hL]
  clear hfs hL
  generalize opersR (l.take k) 0 = L at *
  rw [hp] at q1
  cases q1
  have hlast := fun j x hj hx => lst_last e.th L j x hj hx
  have hth0 := fun t => (lst_th t L (L.set (lst e.th L) { o with a := e.a, fin := (k : Int) }) (set_th hp e.a (k : Int)).symm)
  generalize hP : lst e.th L = p at *
  have hpl := (List.getElem?_eq_some_iff.1 hp).1
  have hom := List.mem_of_getElem? hp
  have hoa := h.a o hom
  have hget : ∀ j x, (L.set p { o with a := e.a, fin := (k : Int) })[j]? = some x → (j = p ∧ x = { o with a := e.a, fin := (k : Int) }) ∨ (j ≠ p ∧ L[j]? = some x) := by
    intro j x hx
    rw [List.getElem?_set] at hx
    by_cases hj : p = j
    · rw [if_pos hj, if_pos (by omega)] at hx
      cases hx
      exact .inl ⟨hj.symm, rfl⟩
    · rw [if_neg hj] at hx
      exact .inr ⟨fun q => hj q.symm, hx⟩
  have hmem : ∀ x, x ∈ L.set p { o with a := e.a, fin := (k : Int) } → x = { o with a := e.a, fin := (k : Int) } ∨ ∃ j, j ≠ p ∧ L[j]? = some x := by
    intro x hx
    obtain ⟨j, hj, hq⟩ := List.mem_iff_getElem.1 hx
    rcases hget j x (by rw [List.getElem?_eq_getElem hj, hq]) with ⟨_, h1⟩ | ⟨h1, h2⟩
    · exact .inl h1
    · exact .inr ⟨j, h1, h2⟩
  refine ⟨fun x hx => ?_, fun i j x y hij hx hy => ?_, fun t hwt x hx hxt => ?_, fun t hwt => ?_, ?_⟩
  · rcases hmem x hx with rfl | ⟨j, _, hj⟩
    · dsimp only
      omega
    · have := h.a x (List.mem_of_getElem? hj)
      omega
  · rcases hget i x hx with ⟨rfl, rfl⟩ | ⟨hi, hx'⟩
    · rcases hget j y hy with ⟨rfl, _⟩ | ⟨hj, hy'⟩
      · omega
      · have hb' := h.b i j o y hij hp hy'
        refine ⟨hb'.1, fun hth => ?_⟩
        have := hlast j y hy' (hth.symm.trans hot)
        omega
    · rcases hget j y hy with ⟨rfl, rfl⟩ | ⟨hj, hy'⟩
      · exact h.b i j x o hij hx' hp
      · exact h.b i j x y hij hx' hy'
  · rw [ht, wi_snoc] at hwt
    rcases hmem x hx with rfl | ⟨j, hj, hjx⟩
    · dsimp only
      omega
    · by_cases hth : e.th = t
      · rcases Nat.lt_or_ge j p with hlt | hge
        · exact ((h.b j p x o hlt hjx hp).2 (hxt.trans (hth.symm.trans hot.symm))).1
        · have := hlast j x hjx (hxt.trans hth.symm)
          omega
      · rw [if_neg hth] at hwt
        exact h.c0 t hwt x (List.mem_of_getElem? hjx) hxt
  · rw [ht, wi_snoc] at hwt
    by_cases hth : e.th = t
    · rw [if_pos hth, hb] at hwt
      cases hwt
    · rw [if_neg hth] at hwt
      obtain ⟨o2, h1, h2, h3⟩ := h.c1 t hwt
      refine ⟨o2, ?_, h2, h3⟩
      rw [← hth0 t, List.getElem?_set, if_neg, h1]
      intro q
      rw [← q, hp] at h1
      cases h1
      exact hth (hot.symm.trans h2)
  · obtain ⟨T, h1, h2, h3⟩ := h.d
    have hTl : T.length = k := by
      have := congrArg List.length h1
      simp at this
      omega
    refine ⟨T ++ [⟨k, 1, p, ⟨e.th, true, cv0, e.a⟩⟩], ?_, fun i x hx => ?_, ?_⟩
    · rw [List.map_append, h1, ht]
      congr 1
      obtain ⟨th, bk, c, a⟩ := e
      dsimp only at hb hc
      subst hb hc
      rfl
    · by_cases hi : i < T.length
      · rw [List.getElem?_append_left hi] at hx
        exact h2 i x hx
      · have hil : i = T.length := by
          have := (List.getElem?_eq_some_iff.1 hx).1
          simp at this
          omega
        subst hil
        rw [List.getElem?_append_right (Nat.le_refl _), Nat.sub_self] at hx
        cases hx
        dsimp only
        omega
    · rw [List.length_set]
      refine (h3.append_right _).trans (mks_fill hp _ ?_ L.length hpl).symm
      unfold mk1
      dsimp only
      rw [if_neg (by omega), if_neg (by omega), if_neg (by omega), if_pos (by omega), hot]
      rfl
theorem inv_all {l : List Ev} {n : Nat} (hup : okUp l n) (hl : l.length = n) : ∀ k, k ≤ n → Inv l k (opersR (l.take k) 0)
  | 0, _ => inv_zero l
  | k + 1, h => by
    have ih := inv_all hup hl k (by omega)
    obtain ⟨e, he⟩ : ∃ e, l[k]? = some e := ⟨l[k]'(by omega), List.getElem?_eq_getElem (i := k) _⟩
    have hok := hup k e (by omega) he
    unfold okE at hok
    rw [Bool.and_eq_true] at hok
    obtain ⟨hr, hwi⟩ := hok
    have hwi : wi (l.take k) e.th = e.bk := eq_of_beq hwi
    unfold rightE at hr
    rw [Bool.and_eq_true] at hr
    cases hb : e.bk with
    | false =>
      have ha : e.a = av0 := by have := hr.2; rw [hb] at this; simpa using this
      exact inv_call he hb (by rw [hwi, hb]) ha ih
    | true =>
      have hc : e.c = cv0 := by have := hr.2; rw [hb] at this; simpa using this
      exact inv_back he hb (by rw [hwi, hb]) hc ih
/-- The events of a history's opers are that history. -/
theorem back_events {l : List Ev} {n : Nat} (hup : okUp l n) (hl : l.length = n) {S : List Mk} (hp : S.Perm (mks (opersR l 0) (opersR l 0).length)) (hs : S.Pairwise mlt) : S.map Mk.e = l := by
  have h := inv_all hup hl n (Nat.le_refl _)
  rw [List.take_of_length_le (by omega)] at h
  obtain ⟨T, h1, h2, h3⟩ := h.d
  have hT : T.Pairwise mlt := by
    rw [List.pairwise_iff_getElem]
    intro i j hi hj hij
    have a := h2 i _ (List.getElem?_eq_getElem hi)
    have b := h2 j _ (List.getElem?_eq_getElem hj)
    unfold mlt
    omega
  rw [sorted_unique S T hs hT (hp.trans h3.symm), h1, List.take_of_length_le (by omega)]
/-- Which opers stand ahead of which. -/
theorem back_ahead {l : List Ev} {n : Nat} (hup : okUp l n) (hl : l.length = n) {i j : Nat} {x y : Opp} (hx : (opersR l 0)[i]? = some x) (hy : (opersR l 0)[j]? = some y) :
    (i < j → x.th = y.th → 0 ≤ x.fin ∧ x.fin < y.fr) ∧ (0 ≤ x.fin ∧ x.fin < y.fr → i < j) ∧ (0 ≤ x.fin → x.fr < x.fin) := by
  have h := inv_all hup hl n (Nat.le_refl _)
  rw [List.take_of_length_le (by omega)] at h
  have ax := h.a x (List.mem_of_getElem? hx)
  refine ⟨fun hij hth => (h.b i j x y hij hx hy).2 hth, fun hq => ?_, fun hq => by omega⟩
  rcases Nat.lt_trichotomy i j with hlt | heq | hgt
  · exact hlt
  · subst heq
    rw [hx] at hy
    cases hy
    omega
  · have := (h.b j i y x hgt hy hx).1
    omega
end Go.Proofs.Ytkcilmnmbfbogaa
