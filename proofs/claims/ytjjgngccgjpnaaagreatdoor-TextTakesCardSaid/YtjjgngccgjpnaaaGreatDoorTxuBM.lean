/- The program's and the document's lines are one: the plain law. -/
import Derived.Test.YtjjgngccgjpnaaaGreatDoorTxtYM
import Derived.Test.YtjjgngccgjpnaaaGreatDoorTxtO
namespace Go.Proofs.YtjjgngccgjpnaaaGreatDoor
set_option linter.unusedVariables false
set_option linter.unusedSimpArgs false
open Go.RowKit

/-- A script so far, as the program and as the document keep it. -/
structure Rel (s r : St) : Prop where
  c : r.c = s.c
  ps : r.ps = s.ps
  es : r.es = s.es.take 60001
  la : r.last = s.last
  dn : r.done = s.done
  wt : s.done = true → r.was = s.was
  wf : s.done = false → s.was = ⟨-1, 0⟩
  en : ∀ e, e ∈ s.es → 0 ≤ e.th ∧ e.th < s.c.th ∧ 0 ≤ e.wh ∧ e.wh ≤ 3
theorem numAt_getD {ws : Wd} {k : Nat} (h : k < ws.length) : numAt ws k = refI (ws.getD k []) := by
  unfold numAt
  rw [List.getD_eq_getElem?_getD, List.getElem?_eq_getElem h, Option.bind_some, numI_ref]
  rfl
theorem bitAt_getD {ws : Wd} {k : Nat} (h : k < ws.length) : bitAt ws k = refU (ws.getD k []) := by
  unfold bitAt
  rw [List.getD_eq_getElem?_getD, List.getElem?_eq_getElem h, Option.bind_some, numU_ref]
  rfl
theorem getD_enc (ws : Wd) (k : Nat) : (ws.map uenc).getD k [] = uenc (ws.getD k []) := by
  rw [List.getD_eq_getElem?_getD, List.getD_eq_getElem?_getD, List.getElem?_map]
  cases ws[k]? with
  | none => rfl
  | some x => rfl
theorem opL_lo : ∀ k : Fin 14, ∀ c, c ∈ (opL.getD k.val ⟨#[]⟩).data.toList → c.toNat < 128 := by decide
theorem opL_lo' (k : Nat) : ∀ c, c ∈ (opL.getD k ⟨#[]⟩).data.toList → c.toNat < 128 := by
  rcases Nat.lt_or_ge k 14 with h | h
  · exact opL_lo ⟨k, h⟩
  · intro c hc
    rw [List.getD_eq_getElem?_getD, List.getElem?_eq_none (by simp [opL]; omega)] at hc
    simp at hc
theorem opG_enc (o : List UInt8) : ∀ g k, opG g k (bstr (uenc o)) = opG g k (bstr o)
  | 0, _ => rfl
  | g + 1, k => by
    rw [opG, opG, opG_enc o g (k + 1)]
    have h1 : opL.getD k ⟨#[]⟩ = bstr (uenc o) ↔ opL.getD k ⟨#[]⟩ = bstr o := by
      rw [eq_comm, bstr_eq, @eq_comm _ (opL.getD k ⟨#[]⟩), bstr_eq]
      exact uenc_kw (opL_lo' k)
    by_cases hq : opL.getD k ⟨#[]⟩ = bstr o
    · rw [if_pos (h1.2 hq), if_pos hq]
    · rw [if_neg (fun e => hq (h1.1 e)), if_neg hq]
theorem wd4_lo : ∀ k : Fin 5, ∀ c, c ∈ wd4 k.val → c.toNat < 128 := by decide
theorem wd4_lo' (k : Nat) (hk : k < 5) : ∀ c, c ∈ wd4 k → c.toNat < 128 := wd4_lo ⟨k, hk⟩
theorem callB_lo : ∀ c, c ∈ callB → c.toNat < 128 := by decide
theorem whatG_enc (f : List UInt8) : ∀ g k, k + g ≤ 5 → whatG g k (uenc f) = whatG g k f
  | 0, _, _ => rfl
  | g + 1, k, h => by
    rw [whatG, whatG, whatG_enc f g (k + 1) (by omega)]
    have h1 : wd4 k = uenc f ↔ wd4 k = f := by
      rw [eq_comm, @eq_comm _ (wd4 k)]
      exact uenc_kw (wd4_lo' k (by omega))
    by_cases hq : wd4 k = f
    · rw [if_pos (h1.2 hq), if_pos hq]
    · rw [if_neg (fun e => hq (h1.1 e)), if_neg hq]
theorem othG_what (f : List UInt8) (s : St) (ws : Wd) : ∀ g k, othG g k f s ws = (whatG g k f).bind fun j => pOther s j ws
  | 0, _ => rfl
  | g + 1, k => by
    rw [othG, whatG]
    by_cases hq : wd4 k = f
    · rw [if_pos hq, if_pos hq]
      rfl
    · rw [if_neg hq, if_neg hq]
      exact othG_what f s ws g (k + 1)
theorem whatG_lt (f : List UInt8) : ∀ g k j, whatG g k f = some j → k ≤ j ∧ j < k + g ∧ wd4 j = f
  | 0, _, _, h => by cases h
  | g + 1, k, j, h => by
    rw [whatG] at h
    by_cases hq : wd4 k = f
    · rw [if_pos hq] at h
      cases h
      exact ⟨Nat.le_refl _, by omega, hq⟩
    · rw [if_neg hq] at h
      obtain ⟨h1, h2, h3⟩ := whatG_lt f g (k + 1) j h
      exact ⟨by omega, by omega, h3⟩
theorem numsI4 (a b c d : List UInt8) (ns : List Int) : numsI [a, b, c, d] = some ns ↔ ∃ n0 n1 n2 n3, refI a = some n0 ∧ refI b = some n1 ∧ refI c = some n2 ∧ refI d = some n3 ∧ ns = [n0, n1, n2, n3] := by
  constructor
  · intro h
    simp only [numsI, Option.bind_eq_some_iff, Option.map_eq_some_iff] at h
    obtain ⟨n0, h0, _, ⟨n1, h1, _, ⟨n2, h2, _, ⟨n3, h3, _, h4, h5⟩, h6⟩, h7⟩, h8⟩ := h
    cases h4
    subst h5 h6 h7
    exact ⟨n0, n1, n2, n3, h0, h1, h2, h3, h8.symm⟩
  · rintro ⟨n0, n1, n2, n3, h0, h1, h2, h3, rfl⟩
    simp only [numsI, h0, h1, h2, h3, Option.bind_some, Option.map_some]
theorem pCall_iff (s s' : St) (ws : Wd) : pCall s ws = some s' ↔ ws.length = 9 ∧ ∃ t lv key rg a b h op, refI (ws.getD 1 []) = some t ∧ refI (ws.getD 3 []) = some lv ∧ refI (ws.getD 4 []) = some key ∧ refI (ws.getD 8 []) = some rg ∧ refU (ws.getD 5 []) = some a ∧ refU (ws.getD 6 []) = some b ∧ refU (ws.getD 7 []) = some h ∧ opOf (bstr (ws.getD 2 [])) = some op ∧ 0 ≤ t ∧ t < s.c.th ∧ s.last ≤ t ∧ s.done = false ∧ s' = { s with last := t, ps := s.ps.set t.toNat (s.ps.getD t.toNat [] ++ [⟨(op : Int), lv, key, (a : Int), (b : Int), (h : Int), rg⟩]) } := by
  constructor
  · intro h
    unfold pCall at h
    obtain ⟨t, ht, h⟩ := Option.bind_eq_some_iff.1 h
    obtain ⟨o, ho, h⟩ := Option.bind_eq_some_iff.1 h
    obtain ⟨lv, h3, h⟩ := Option.bind_eq_some_iff.1 h
    obtain ⟨key, h4, h⟩ := Option.bind_eq_some_iff.1 h
    obtain ⟨a, h5, h⟩ := Option.bind_eq_some_iff.1 h
    obtain ⟨b, h6, h⟩ := Option.bind_eq_some_iff.1 h
    obtain ⟨hh, h7, h⟩ := Option.bind_eq_some_iff.1 h
    obtain ⟨rg, h8, h⟩ := Option.bind_eq_some_iff.1 h
    obtain ⟨op, hop, h⟩ := Option.bind_eq_some_iff.1 h
    split at h
    · next hq =>
      have hl := hq.2.2
      injection h with h
      obtain ⟨t', ht', hti⟩ := Option.bind_eq_some_iff.1 ht
      split at hti
      · next hti2 =>
        injection hti with hti
        subst hti
        have ho2 : ws.getD 2 [] = o := by rw [List.getD_eq_getElem?_getD, ho]; rfl
        rw [numAt_getD (by omega)] at ht' h3 h4 h8
        rw [bitAt_getD (by omega)] at h5 h6 h7
        exact ⟨hl, t', lv, key, rg, a, b, hh, op, ht', h3, h4, h8, h5, h6, h7, ho2 ▸ hop, hti2.1, hti2.2, hq.1, hq.2.1, h.symm⟩
      · cases hti
    · cases h
  · rintro ⟨hl, t, lv, key, rg, a, b, h, op, h1, h3, h4, h8, h5, h6, h7, hop, t0, t1, t2, t3, rfl⟩
    unfold pCall thrAt
    have ho : ws[2]? = some (ws.getD 2 []) := by
      rw [List.getD_eq_getElem?_getD, List.getElem?_eq_getElem (by omega)]
      rfl
    rw [numAt_getD (by omega), h1, Option.bind_some, if_pos ⟨t0, t1⟩, Option.bind_some, ho, Option.bind_some, numAt_getD (by omega), h3, Option.bind_some, numAt_getD (by omega), h4, Option.bind_some, bitAt_getD (by omega), h5, Option.bind_some, bitAt_getD (by omega), h6, Option.bind_some, bitAt_getD (by omega), h7, Option.bind_some, numAt_getD (by omega), h8, Option.bind_some, hop, Option.bind_some, if_pos ⟨t2, t3, hl⟩]
theorem rCallL_iff (s s' : St) (ws : Wd) : rCallL s ws = some s' ↔ ws.length = 9 ∧ ∃ t lv key rg a b h op, refI (ws.getD 1 []) = some t ∧ refI (ws.getD 3 []) = some lv ∧ refI (ws.getD 4 []) = some key ∧ refI (ws.getD 8 []) = some rg ∧ refU (ws.getD 5 []) = some a ∧ refU (ws.getD 6 []) = some b ∧ refU (ws.getD 7 []) = some h ∧ opOf (bstr (ws.getD 2 [])) = some op ∧ 0 ≤ t ∧ t < s.c.th ∧ s.last ≤ t ∧ s.done = false ∧ s' = { s with last := t, ps := s.ps.set t.toNat (s.ps.getD t.toNat [] ++ [⟨(op : Int), lv, key, (a : Int), (b : Int), (h : Int), rg⟩]) } := by
  unfold rCallL rCall
  constructor
  · intro h
    obtain ⟨x, hx, h⟩ := Option.bind_eq_some_iff.1 h
    split at hx
    · next hl =>
      obtain ⟨op, hop, hx⟩ := Option.bind_eq_some_iff.1 hx
      obtain ⟨ns, hns, hx⟩ := Option.bind_eq_some_iff.1 hx
      obtain ⟨a, ha, hx⟩ := Option.bind_eq_some_iff.1 hx
      obtain ⟨b, hb, hx⟩ := Option.bind_eq_some_iff.1 hx
      obtain ⟨hh, h7, hx⟩ := Option.bind_eq_some_iff.1 hx
      obtain ⟨n0, n1, n2, n3, g0, g1, g2, g3, rfl⟩ := (numsI4 _ _ _ _ _).1 hns
      injection hx with hx
      subst hx
      split at h
      · next hq =>
        injection h with h
        exact ⟨hl, n0, n1, n2, n3, a, b, hh, op, g0, g1, g2, g3, ha, hb, h7, hop, hq.1, hq.2.1, hq.2.2.1, hq.2.2.2, h.symm⟩
      · cases h
    · cases hx
  · rintro ⟨hl, t, lv, key, rg, a, b, h, op, h1, h3, h4, h8, h5, h6, h7, hop, t0, t1, t2, t3, rfl⟩
    rw [if_pos hl, hop, Option.bind_some, (numsI4 _ _ _ _ _).2 ⟨t, lv, key, rg, h1, h3, h4, h8, rfl⟩, Option.bind_some, h5, Option.bind_some, h6, Option.bind_some, h7, Option.bind_some, Option.bind_some]
    exact if_pos ⟨t0, t1, t2, t3⟩
theorem opOf_enc (o : List UInt8) : opOf (bstr (uenc o)) = opOf (bstr o) := opG_enc o 13 0
theorem rCallL_enc {s r : St} (h : Rel s r) (ws : Wd) (s' : St) : pCall s ws = some s' ↔ ∃ r', rCallL r (ws.map uenc) = some r' ∧ s' = { s with last := r'.last, ps := r'.ps } ∧ r' = { r with last := r'.last, ps := r'.ps } := by
  constructor
  · intro hp
    obtain ⟨hl, t, lv, key, rg, a, b, hh, op, h1, h3, h4, h8, h5, h6, h7, hop, t0, t1, t2, t3, rfl⟩ := (pCall_iff _ _ _).1 hp
    refine ⟨_, (rCallL_iff _ _ _).2 ⟨by rw [List.length_map]; exact hl, t, lv, key, rg, a, b, hh, op, by rw [getD_enc, refI_uenc]; exact h1, by rw [getD_enc, refI_uenc]; exact h3, by rw [getD_enc, refI_uenc]; exact h4, by rw [getD_enc, refI_uenc]; exact h8, by rw [getD_enc, refU_uenc]; exact h5, by rw [getD_enc, refU_uenc]; exact h6, by rw [getD_enc, refU_uenc]; exact h7, by rw [getD_enc, opOf_enc]; exact hop, t0, by rw [h.c]; exact t1, by rw [h.la]; exact t2, by rw [h.dn]; exact t3, rfl⟩, ?_, rfl⟩
    rw [h.ps]
  · rintro ⟨r', hr, rfl, hr'⟩
    obtain ⟨hl, t, lv, key, rg, a, b, hh, op, h1, h3, h4, h8, h5, h6, h7, hop, t0, t1, t2, t3, rfl⟩ := (rCallL_iff _ _ _).1 hr
    rw [getD_enc, refI_uenc] at h1 h3 h4 h8
    rw [getD_enc, refU_uenc] at h5 h6 h7
    rw [getD_enc, opOf_enc] at hop
    refine (pCall_iff _ _ _).2 ⟨by rw [List.length_map] at hl; exact hl, t, lv, key, rg, a, b, hh, op, h1, h3, h4, h8, h5, h6, h7, hop, t0, by rw [← h.c]; exact t1, by rw [← h.la]; exact t2, by rw [← h.dn]; exact t3, ?_⟩
    rw [h.ps]
end Go.Proofs.YtjjgngccgjpnaaaGreatDoor
namespace Go.Proofs.YtjjgngccgjpnaaaGreatDoor
set_option linter.unusedVariables false
set_option linter.unusedSimpArgs false
open Go.RowKit

theorem pPicks_iff (s s' : St) (ws : Wd) : pPicks s ws = some s' ↔ ws.length = 3 ∧ ∃ t n, refI (ws.getD 1 []) = some t ∧ refI (ws.getD 2 []) = some n ∧ 0 ≤ t ∧ t < s.c.th ∧ 0 < n ∧ s.was ≠ ⟨t, 0⟩ ∧ s' = { s with was := ⟨t, 0⟩, es := s.es ++ List.replicate (pickN n s.es.length) ⟨t, 0⟩ } := by
  unfold pPicks thrAt
  constructor
  · intro h
    obtain ⟨t, ht, h⟩ := Option.bind_eq_some_iff.1 h
    obtain ⟨n, hn, h⟩ := Option.bind_eq_some_iff.1 h
    obtain ⟨t', ht', hti⟩ := Option.bind_eq_some_iff.1 ht
    split at h
    · next hq =>
      split at hti
      · next hti2 =>
        injection hti with hti
        injection h with h
        subst hti
        have hl := hq.2.2
        rw [numAt_getD (by omega)] at ht' hn
        exact ⟨hl, t', n, ht', hn, hti2.1, hti2.2, hq.1, hq.2.1, h.symm⟩
      · cases hti
    · cases h
  · rintro ⟨hl, t, n, h1, h2, t0, t1, hn, hw, rfl⟩
    rw [numAt_getD (by omega), h1, Option.bind_some, if_pos ⟨t0, t1⟩, Option.bind_some, numAt_getD (by omega), h2, Option.bind_some, if_pos ⟨hn, hw, hl⟩]
theorem pOther_iff (s s' : St) (k : Nat) (ws : Wd) : pOther s k ws = some s' ↔ ws.length = 2 ∧ ∃ t, refI (ws.getD 1 []) = some t ∧ 0 ≤ t ∧ t < s.c.th ∧ s' = { s with was := ⟨t, (k : Int)⟩, es := s.es ++ [⟨t, (k : Int)⟩] } := by
  unfold pOther thrAt
  constructor
  · intro h
    obtain ⟨t, ht, h⟩ := Option.bind_eq_some_iff.1 h
    obtain ⟨t', ht', hti⟩ := Option.bind_eq_some_iff.1 ht
    split at h
    · next hl =>
      split at hti
      · next hti2 =>
        injection hti with hti
        injection h with h
        subst hti
        rw [numAt_getD (by omega)] at ht'
        exact ⟨hl, t', ht', hti2.1, hti2.2, h.symm⟩
      · cases hti
    · cases h
  · rintro ⟨hl, t, h1, t0, t1, rfl⟩
    rw [numAt_getD (by omega), h1, Option.bind_some, if_pos ⟨t0, t1⟩, Option.bind_some, if_pos hl]
theorem numsI_one (a : List UInt8) (ns : List Int) : numsI [a] = some ns ↔ ∃ n0, refI a = some n0 ∧ ns = [n0] := by
  constructor
  · intro h
    simp only [numsI, Option.bind_eq_some_iff, Option.map_eq_some_iff] at h
    obtain ⟨n0, h0, _, h4, h5⟩ := h
    cases h4
    exact ⟨n0, h0, h5.symm⟩
  · rintro ⟨n0, h0, rfl⟩
    simp only [numsI, h0, Option.bind_some, Option.map_some]
theorem numsI_two (a b : List UInt8) (ns : List Int) : numsI [a, b] = some ns ↔ ∃ n0 n1, refI a = some n0 ∧ refI b = some n1 ∧ ns = [n0, n1] := by
  constructor
  · intro h
    simp only [numsI, Option.bind_eq_some_iff, Option.map_eq_some_iff] at h
    obtain ⟨n0, h0, _, ⟨n1, h1, _, h4, h5⟩, h6⟩ := h
    cases h4
    subst h5
    exact ⟨n0, n1, h0, h1, h6.symm⟩
  · rintro ⟨n0, n1, h0, h1, rfl⟩
    simp only [numsI, h0, h1, Option.bind_some, Option.map_some]
theorem rOther_iff (s s' : St) (ws : Wd) : rOther s ws = some s' ↔ ∃ ns wh, numsI (ws.drop 1) = some ns ∧ whatOf (ws.getD 0 []) = some wh ∧ ((wh = 0 → ns.length = 2) ∧ (0 < wh → ns.length = 1) ∧ 0 ≤ ns.getD 0 0 ∧ ns.getD 0 0 < s.c.th ∧ (wh = 0 → 1 ≤ rMany wh ns ∧ ¬ (s.done = true ∧ s.was = ⟨ns.getD 0 0, 0⟩))) ∧ s' = { s with done := true, was := ⟨ns.getD 0 0, (wh : Int)⟩, es := s.es ++ List.replicate (min (rMany wh ns).toNat (60001 - s.es.length)) ⟨ns.getD 0 0, (wh : Int)⟩ } := by
  unfold rOther
  constructor
  · intro h
    obtain ⟨ns, h1, h⟩ := Option.bind_eq_some_iff.1 h
    obtain ⟨wh, h2, h⟩ := Option.bind_eq_some_iff.1 h
    split at h
    · next hq =>
      injection h with h
      exact ⟨ns, wh, h1, h2, hq, h.symm⟩
    · cases h
  · rintro ⟨ns, wh, h1, h2, hq, rfl⟩
    rw [h1, Option.bind_some, h2, Option.bind_some, if_pos hq]
theorem len_two {ws : Wd} (h : ws.length = 2) : ws.drop 1 = [ws.getD 1 []] := by
  match ws, h with
  | [a, b], _ => rfl
theorem len_three {ws : Wd} (h : ws.length = 3) : ws.drop 1 = [ws.getD 1 [], ws.getD 2 []] := by
  match ws, h with
  | [a, b, c], _ => rfl
theorem take_app {l : List En} {m : Nat} {e : En} {r : List En} (hr : r = l.take 60001) (k k' : Nat) (hk : k = min m (60001 - r.length)) (hk' : k' = m ∨ (k' = min m (60001 - l.length))) : r ++ List.replicate k e = (l ++ List.replicate k' e).take 60001 := by
  subst hr
  rw [List.length_take] at hk
  rcases Nat.lt_or_ge l.length 60001 with h | h
  · rw [List.take_of_length_le (by omega), List.take_append, List.take_of_length_le (by omega)]
    congr 1
    rw [List.take_replicate]
    congr 1
    omega
  · rw [List.take_append, show 60001 - l.length = 0 by omega, List.take_zero, List.append_nil, show k = 0 by omega]
    simp
/-- The words of a line, each a list that isn't the other's. -/
theorem drop_enc (ws : Wd) : (ws.map uenc).drop 1 = (ws.drop 1).map uenc := by rw [List.map_drop]
theorem numsI_enc : ∀ ws : Wd, numsI (ws.map uenc) = numsI ws
  | [] => rfl
  | x :: t => by
    rw [List.map_cons, numsI, numsI, refI_uenc, numsI_enc t]
theorem rel_other {s r : St} (h : Rel s r) (ws : Wd) (f : List UInt8) (hf : ws.getD 0 [] = f) : match (if f = wd4 0 then pPicks { s with done := true } ws else othG 4 0 f { s with done := true } ws) with
    | none => rOther r (ws.map uenc) = none
    | some s' => ∃ r', rOther r (ws.map uenc) = some r' ∧ Rel s' r' := by
  have hwo : whatOf ((ws.map uenc).getD 0 []) = whatOf f := by rw [getD_enc, hf]; exact whatG_enc f 4 0 (by omega)
  have hnn : numsI ((ws.map uenc).drop 1) = numsI (ws.drop 1) := by rw [drop_enc, numsI_enc]
  have hnone : (∀ r', rOther r (ws.map uenc) ≠ some r') → rOther r (ws.map uenc) = none := fun q => by
    cases hx : rOther r (ws.map uenc) with
    | none => rfl
    | some r' => exact absurd hx (q r')
  by_cases h0 : f = wd4 0
  · have hw0 : whatOf f = some 0 := by rw [h0]; rfl
    rw [if_pos h0]
    cases hp : pPicks { s with done := true } ws with
    | none =>
      refine hnone fun r' hr => ?_
      obtain ⟨ns, wh, h1, h2, hq, rfl⟩ := (rOther_iff _ _ _).1 hr
      rw [hwo, hw0] at h2
      injection h2 with h2
      subst h2
      rw [hnn] at h1
      have hl := (numsI_some h1).1
      rw [hq.1 rfl, List.length_drop] at hl
      have hl3 : ws.length = 3 := by omega
      rw [len_three hl3] at h1
      obtain ⟨n0, n1, e0, e1, rfl⟩ := (numsI_two _ _ _).1 h1
      have hm := hq.2.2.2.2 rfl
      have : pPicks { s with done := true } ws = some _ := (pPicks_iff _ _ _).2 ⟨hl3, n0, n1, e0, e1, hq.2.2.1, by have := hq.2.2.2.1; rw [h.c] at this; exact this, by have := hm.1; simp [rMany] at this; omega, fun q => by
        have q' : s.was = ⟨n0, 0⟩ := q
        cases hd : s.done with
        | true => exact hm.2 ⟨by rw [h.dn]; exact hd, by rw [h.wt hd]; exact q'⟩
        | false =>
          have := (h.wf hd).symm.trans q'
          injection this with t1 _
          have := hq.2.2.1
          simp at this
          omega, rfl⟩
      rw [hp] at this
      cases this
    | some s' =>
      obtain ⟨hl, t, n, e0, e1, t0, t1, hn, hw, rfl⟩ := (pPicks_iff _ _ _).1 hp
      have hns : numsI (ws.drop 1) = some [t, n] := by rw [len_three hl]; exact (numsI_two _ _ _).2 ⟨t, n, e0, e1, rfl⟩
      refine ⟨_, (rOther_iff _ _ _).2 ⟨[t, n], 0, by rw [hnn]; exact hns, by rw [hwo]; exact hw0, ⟨fun _ => rfl, fun q => by omega, t0, by rw [h.c]; exact t1, fun _ => ⟨by simp [rMany]; omega, fun q => hw (by rw [← h.wt (by rw [← h.dn]; exact q.1)]; exact q.2)⟩⟩, rfl⟩, ?_⟩
      refine ⟨h.c, h.ps, ?_, h.la, rfl, fun _ => rfl, fun q => (by cases q), fun e he => ?_⟩
      · have hm : rMany 0 [t, n] = n := rfl
        show r.es ++ List.replicate (min (rMany 0 [t, n]).toNat (60001 - r.es.length)) ⟨t, 0⟩ = _
        rw [hm]
        exact take_app h.es _ _ rfl (.inr rfl)
      · rcases List.mem_append.1 he with q | q
        · exact h.en e q
        · have := List.eq_of_mem_replicate q
          subst this
          exact ⟨t0, t1, Int.le_refl _, by show (0 : Int) ≤ 3; decide⟩
  · rw [if_neg h0, othG_what]
    cases hwf : whatG 4 0 f with
    | none =>
      rw [Option.bind_none]
      refine hnone fun r' hr => ?_
      obtain ⟨ns, wh, h1, h2, _⟩ := (rOther_iff _ _ _).1 hr
      rw [hwo] at h2
      have : whatOf f = none := hwf
      rw [this] at h2
      cases h2
    | some k =>
      obtain ⟨_, hk4, hkf⟩ := whatG_lt f 4 0 k hwf
      have hk0 : 0 < k := by
        rcases Nat.eq_zero_or_pos k with q | q
        · subst q; exact absurd hkf.symm h0
        · exact q
      rw [Option.bind_some]
      cases hp : pOther { s with done := true } k ws with
      | none =>
        refine hnone fun r' hr => ?_
        obtain ⟨ns, wh, h1, h2, hq, rfl⟩ := (rOther_iff _ _ _).1 hr
        rw [hwo] at h2
        have : whatOf f = some k := hwf
        rw [this] at h2
        injection h2 with h2
        subst h2
        rw [hnn] at h1
        have hl := (numsI_some h1).1
        rw [hq.2.1 hk0, List.length_drop] at hl
        have hl2 : ws.length = 2 := by omega
        rw [len_two hl2] at h1
        obtain ⟨n0, e0, rfl⟩ := (numsI_one _ _).1 h1
        have : pOther { s with done := true } k ws = some _ := (pOther_iff _ _ _ _).2 ⟨hl2, n0, e0, hq.2.2.1, by have := hq.2.2.2.1; rw [h.c] at this; exact this, rfl⟩
        rw [hp] at this
        cases this
      | some s' =>
        obtain ⟨hl, t, e0, t0, t1, rfl⟩ := (pOther_iff _ _ _ _).1 hp
        have hns : numsI (ws.drop 1) = some [t] := by rw [len_two hl]; exact (numsI_one _ _).2 ⟨t, e0, rfl⟩
        refine ⟨_, (rOther_iff _ _ _).2 ⟨[t], k, by rw [hnn]; exact hns, by rw [hwo]; exact hwf, ⟨fun q => by omega, fun _ => rfl, t0, by rw [h.c]; exact t1, fun q => by omega⟩, rfl⟩, ?_⟩
        refine ⟨h.c, h.ps, ?_, h.la, rfl, fun _ => rfl, fun q => (by cases q), fun e he => ?_⟩
        · have hm : rMany k [t] = 1 := by rw [rMany, if_neg (by omega)]
          show r.es ++ List.replicate (min (rMany k [t]).toNat (60001 - r.es.length)) ⟨t, (k : Int)⟩ = _
          rw [hm]
          exact take_app (m := 1) h.es _ 1 rfl (.inl rfl)
        · rcases List.mem_append.1 he with q | q
          · exact h.en e q
          · have := List.mem_singleton.1 q
            subst this
            exact ⟨t0, t1, by show (0 : Int) ≤ (k : Int); omega, by show (k : Int) ≤ 3; omega⟩
theorem rel_line {s r : St} (h : Rel s r) (ws : Wd) (hw : ws ≠ []) : match pLine s ws with
    | none => rLine r (ws.map uenc) = none
    | some s' => ∃ r', rLine r (ws.map uenc) = some r' ∧ Rel s' r' := by
  obtain ⟨f, t, rfl⟩ : ∃ f t, ws = f :: t := by
    cases ws with
    | nil => exact absurd rfl hw
    | cons f t => exact ⟨f, t, rfl⟩
  have hf0 : ((f :: t : Wd).map uenc).getD 0 [] = uenc f := rfl
  have e1 : pLine s (f :: t) = if f = callB then pCall s (f :: t) else if f = wd4 0 then pPicks { s with done := true } (f :: t) else othG 4 0 f { s with done := true } (f :: t) := rfl
  rw [e1, rLine, hf0]
  by_cases hc : f = callB
  · rw [if_pos hc, if_pos ((uenc_kw callB_lo).2 hc)]
    cases hp : pCall s (f :: t) with
    | none =>
      show rCallL r ((f :: t : Wd).map uenc) = none
      cases hr : rCallL r ((f :: t : Wd).map uenc) with
      | none => rfl
      | some r' =>
        have hr2 := hr
        obtain ⟨hl, t', lv, key, rg, a, b, hh, op, h1, h3, h4, h8, h5, h6, h7, hop, t0, t1, t2, t3, hrr⟩ := (rCallL_iff _ _ _).1 hr
        have := (rCallL_enc h (f :: t) { s with last := r'.last, ps := r'.ps }).2 ⟨r', hr2, rfl, by rw [hrr]⟩
        rw [hp] at this
        cases this
    | some s' =>
      obtain ⟨r', hr, hs', hr'⟩ := (rCallL_enc h (f :: t) s').1 hp
      refine ⟨r', hr, ?_⟩
      rw [hs', hr']
      exact ⟨h.c, rfl, h.es, rfl, h.dn, h.wt, h.wf, h.en⟩
  · rw [if_neg hc, if_neg (fun q => hc ((uenc_kw callB_lo).1 q))]
    exact rel_other h (f :: t) f rfl
def rst0 : St := ⟨cf0, nil8P, [], 0, false, ⟨0, 0⟩⟩
def rStep (n : Nat) (r : St) (ws : Wd) : Option St := if n = 0 then (rConf ws).map fun c => { r with c := c } else rLine r ws
def rLines : Nat → Nat → St → List UInt8 → Except Nat St
  | 0, _, s, _ => .ok s
  | g + 1, n, s, t => if 0 < n ∧ t = [] then .ok s else match brk 10 t with
    | none => .error (n + 1)
    | some p => match rStep n s ((spl 32 p.1).map uenc) with
      | none => .error (n + 1)
      | some s' => rLines g (n + 1) s' p.2
def rTake (t : List UInt8) : Except (Nat × Int) St := match rLines (t.length + 1) 0 rst0 t with
  | .error n => .error (n, 3)
  | .ok s => if rightN s.c s.ps s.es (IntKind.i64.wrap (s.c.lv - 1)) = 0 then .ok s else .error (0, rightN s.c s.ps s.es (IntKind.i64.wrap (s.c.lv - 1)))
def RelN (n : Nat) (s r : St) : Prop := if n = 0 then s = st0 ∧ r = rst0 else Rel s r
theorem rel_step {n : Nat} {s r : St} (h : RelN n s r) (ws : Wd) (hw : ws ≠ []) : match pStep n s ws with
    | none => rStep n r (ws.map uenc) = none
    | some s' => ∃ r', rStep n r (ws.map uenc) = some r' ∧ Rel s' r' := by
  unfold RelN at h
  unfold pStep rStep
  by_cases hn : n = 0
  · rw [if_pos hn] at h
    obtain ⟨rfl, rfl⟩ := h
    rw [if_pos hn, if_pos hn, rConf_eq, pConf_enc]
    cases pConf ws with
    | none => rfl
    | some c => exact ⟨_, rfl, rfl, rfl, rfl, rfl, rfl, fun q => (by cases q), fun _ => rfl, fun e he => by cases he⟩
  · rw [if_neg hn] at h
    rw [if_neg hn, if_neg hn]
    exact rel_line h ws hw
theorem rel_lines : ∀ (g n : Nat) (s r : St) (t : List UInt8), RelN n s r → (n = 0 → 0 < g) → match pLines g n s t with
    | .error m => rLines g n r t = .error m
    | .ok s' => ∃ r', rLines g n r t = .ok r' ∧ Rel s' r'
  | 0, n, s, r, t, h, hg => by
    unfold RelN at h
    rw [if_neg (fun q => by have := hg q; omega)] at h
    exact ⟨r, rfl, h⟩
  | g + 1, n, s, r, t, h, _ => by
    have e1 : pLines (g + 1) n s t = if 0 < n ∧ t = [] then .ok s else match brk 10 t with
      | none => .error (n + 1)
      | some p => match pStep n s (spl 32 p.1) with
        | none => .error (n + 1)
        | some s' => pLines g (n + 1) s' p.2 := rfl
    have e2 : rLines (g + 1) n r t = if 0 < n ∧ t = [] then .ok r else match brk 10 t with
      | none => .error (n + 1)
      | some p => match rStep n r ((spl 32 p.1).map uenc) with
        | none => .error (n + 1)
        | some s' => rLines g (n + 1) s' p.2 := rfl
    rw [e1, e2]
    by_cases hx : 0 < n ∧ t = []
    · rw [if_pos hx, if_pos hx]
      unfold RelN at h
      rw [if_neg (by omega)] at h
      exact ⟨r, rfl, h⟩
    · rw [if_neg hx, if_neg hx]
      cases brk 10 t with
      | none => rfl
      | some p =>
        have hs := rel_step h (spl 32 p.1) (spl_ne 32 p.1)
        cases hp : pStep n s (spl 32 p.1) with
        | none =>
          rw [hp] at hs
          simp only [hs, hp]
        | some s' =>
          rw [hp] at hs
          obtain ⟨r', hr, hrel⟩ := hs
          simp only [hr, hp]
          exact rel_lines g (n + 1) s' r' p.2 (by unfold RelN; rw [if_neg (by omega)]; exact hrel) (fun q => by omega)
end Go.Proofs.YtjjgngccgjpnaaaGreatDoor
namespace Go.Proofs.YtjjgngccgjpnaaaGreatDoor
set_option linter.unusedVariables false
set_option linter.unusedSimpArgs false
open Go.RowKit

def EnOk (c : Cf) (es : List En) : Prop := ∀ e, e ∈ es → 0 ≤ e.th ∧ e.th < c.th ∧ 0 ≤ e.wh ∧ e.wh ≤ 3
theorem any_false {α : Type} {l : List α} {p : α → Bool} (h : ∀ x, x ∈ l → p x = false) : l.any p = false := by
  rw [List.any_eq_false]
  intro x hx
  rw [h x hx]
  decide
theorem abs_ok {c : Cf} {es : List En} (h : EnOk c es) : es.any (fun e => !thB c e.th) = false := any_false fun e he => by
  obtain ⟨h1, h2, _, _⟩ := h e he
  rw [thB, decide_eq_true ⟨h1, h2⟩]
  rfl
theorem bad_ok {c : Cf} {es : List En} (h : EnOk c es) (lv : Int) : es.any (eBad c lv) = false := any_false fun e he => by
  obtain ⟨_, _, h1, h2⟩ := h e he
  rw [eBad, decide_eq_false (by omega), Bool.and_false]
theorem cnt_ok {c : Cf} {es : List En} (h : EnOk c es) (hm : mayB c = true) : cntE c (c.lv - 1) es = es.length := by
  unfold cntE
  rw [List.filter_eq_self.2]
  intro e he
  obtain ⟨h1, h2, _, _⟩ := h e he
  have m : c.May := of_decide_eq_true hm
  have := m.t2
  have hr := m.r e.th.toNat (by omega)
  rw [eIn, levelOf, if_pos ⟨hm, h1, h2⟩]
  exact decide_eq_true (by omega)
theorem wrap_lv {c : Cf} (hm : mayB c = true) : IntKind.i64.wrap (c.lv - 1) = c.lv - 1 := by
  have m : c.May := of_decide_eq_true hm
  have := m.l1
  have := m.l2
  exact IntWalk.i64_in _ (by omega)
theorem right_take {c : Cf} (ps : List (List CV)) {es : List En} (h : EnOk c es) : rightN c ps (es.take 60001) (IntKind.i64.wrap (c.lv - 1)) = rightN c ps es (IntKind.i64.wrap (c.lv - 1)) ∧ (rightN c ps es (IntKind.i64.wrap (c.lv - 1)) = 0 → es.length ≤ 60000) := by
  unfold rightN
  cases hm : mayB c with
  | false => exact ⟨by rw [if_pos rfl, if_pos rfl], fun q => by rw [if_pos rfl] at q; cases q⟩
  | true =>
    have ht : EnOk c (es.take 60001) := fun e he => h e (List.mem_of_mem_take he)
    have hl : decide (60000 < cntE c (c.lv - 1) (es.take 60001)) = decide (60000 < cntE c (c.lv - 1) es) := by
      rw [cnt_ok h hm, cnt_ok ht hm, List.length_take]
      congr 1
      rw [eq_iff_iff]
      omega
    rw [wrap_lv hm]
    unfold absB badB longB
    rw [abs_ok h, abs_ok ht, bad_ok h, bad_ok ht, hl]
    refine ⟨rfl, fun q => ?_⟩
    rw [cnt_ok h hm] at q
    rw [if_neg (by decide)] at q
    split at q
    · cases q
    · split at q
      · cases q
      · split at q
        · cases q
        · next hq =>
          rcases Nat.lt_or_ge 60000 es.length with g | g
          · exact absurd (by rw [decide_eq_true g, Bool.or_true]) hq
          · exact g
/-- What both make of a text. -/
theorem take_rel (t : List UInt8) : match pTake t with
    | .error q => rTake t = .error q
    | .ok s => ∃ r, rTake t = .ok r ∧ r.c = s.c ∧ r.ps = s.ps ∧ r.es = s.es := by
  have hr := rel_lines (t.length + 1) 0 st0 rst0 t (by unfold RelN; exact ⟨rfl, rfl⟩) (fun _ => by omega)
  unfold pTake rTake
  cases hp : pLines (t.length + 1) 0 st0 t with
  | error m =>
    rw [hp] at hr
    simp only [hr]
  | ok s =>
    rw [hp] at hr
    obtain ⟨r, h1, h2⟩ := hr
    obtain ⟨e1, e2⟩ := right_take s.ps (c := s.c) (es := s.es) h2.en
    simp only [h1, h2.c, h2.ps, h2.es, e1]
    by_cases hq : rightN s.c s.ps s.es (IntKind.i64.wrap (s.c.lv - 1)) = 0
    · rw [if_pos hq, if_pos hq]
      refine ⟨r, rfl, h2.c, h2.ps, ?_⟩
      rw [h2.es, List.take_of_length_le (by have := e2 hq; omega)]
    · rw [if_neg hq, if_neg hq]
end Go.Proofs.YtjjgngccgjpnaaaGreatDoor
