/- Several texts as one. -/
import Derived.Test.YtknngjdcbldmgaaDoorSctD
import Derived.Test.YtknngjdcbldmgaaDoorSctG
namespace Go.Proofs.YtknngjdcbldmgaaDoor
set_option linter.unusedVariables false
set_option linter.unusedSimpArgs false
open Go.RowKit

theorem mem_thr (c : Cf) (p : Int → Bool) : ∀ (k j : Nat), j < k → (j : Int) < c.th → p (c.of j) = true → (j : Int) ∈ thr c p k
  | 0, j, h, _, _ => absurd h (Nat.not_lt_zero _)
  | k + 1, j, h, h1, h2 => by
    rw [thr, List.mem_append]
    by_cases hj : j = k
    · subst hj
      exact .inr (by rw [h2, decide_eq_true h1]; simp)
    · exact .inl (mem_thr c p k j (by omega) h1 h2)
theorem mem_ups {c : Cf} {lv t : Int} : t ∈ ups c lv ↔ mayB c = true ∧ ∃ j : Nat, j < 8 ∧ t = (j : Int) ∧ (j : Int) < c.th ∧ c.of j ≤ lv := by
  unfold ups atL
  by_cases hm : mayB c = true
  · rw [if_pos hm]
    constructor
    · intro h
      obtain ⟨j, h1, h2, h3, h4⟩ := thr_mem _ _ _ _ h
      exact ⟨hm, j, h1, h2, by omega, of_decide_eq_true h4⟩
    · rintro ⟨_, j, h1, rfl, h3, h4⟩
      exact mem_thr _ _ _ _ h1 h3 (decide_eq_true h4)
  · rw [if_neg hm]
    constructor
    · intro h; cases h
    · rintro ⟨h, _⟩; exact absurd h hm
/-- A script that is right up to a level, in words of its parts. -/
structure OkS (c : Cf) (ps : List (List CV)) (es : List En) (lv : Int) : Prop where
  may : mayB c = true
  no : ∀ j : Nat, j < 8 → c.th ≤ (j : Int) → ps.getD j [] = []
  eth : ∀ e, e ∈ es → 0 ≤ e.th ∧ e.th < c.th
  ok : ∀ j : Nat, j < 8 → (j : Int) < c.th → c.of j ≤ lv → ∀ x, x ∈ ps.getD j [] → okC x = true
  len : ∀ j : Nat, j < 8 → (j : Int) < c.th → c.of j ≤ lv → (ps.getD j []).length ≤ 40
  ewh : ∀ e, e ∈ es → levelOf c e.th ≤ lv → 0 ≤ e.wh ∧ e.wh ≤ 3
  cnt : cntE c lv es ≤ 60000
theorem rightN_iff {c : Cf} {ps : List (List CV)} {es : List En} {lv : Int} : rightN c ps es lv = 0 ↔ OkS c ps es lv := by
  unfold rightN
  by_cases hm : mayB c = false
  · rw [if_pos hm]
    exact ⟨fun h => absurd h (by decide), fun h => by rw [h.may] at hm; cases hm⟩
  rw [if_neg hm]
  have hm : mayB c = true := by simpa using hm
  have hmm : c.May := of_decide_eq_true hm
  have hnat : ∀ j : Nat, 0 ≤ (j : Int) := fun j => Int.natCast_nonneg j
  constructor
  · intro h
    by_cases ha : absB c ps es = true
    · rw [if_pos ha] at h; exact absurd h (by decide)
    rw [if_neg ha] at h
    by_cases hb : badB c ps es lv = true
    · rw [if_pos hb] at h; exact absurd h (by decide)
    rw [if_neg hb] at h
    by_cases hl : longB c ps es lv = true
    · rw [if_pos hl] at h; exact absurd h (by decide)
    have ha : absB c ps es = false := by simpa using ha
    have hb : badB c ps es lv = false := by simpa using hb
    have hl : longB c ps es lv = false := by simpa using hl
    rw [absB, Bool.or_eq_false_iff] at ha
    rw [badB, Bool.or_eq_false_iff] at hb
    rw [longB, Bool.or_eq_false_iff] at hl
    refine ⟨hm, fun j hj ht => ?_, fun e he => ?_, fun j hj ht ho x hx => ?_, fun j hj ht ho => ?_, fun e he hle => ?_, ?_⟩
    · have h1 := List.any_eq_false.1 ha.1 j (List.mem_range.2 hj)
      have h2 : thB c (j : Int) = false := decide_eq_false (by omega)
      rw [pAbs, h2] at h1
      have h3 : ¬ 0 < (ps.getD j []).length := by simpa using h1
      exact List.eq_nil_of_length_eq_zero (by omega)
    · have h1 := List.any_eq_false.1 ha.2 e he
      have h2 : thB c e.th = true := by simpa using h1
      exact of_decide_eq_true h2
    · have h1 := List.any_eq_false.1 hb.1 (j : Int) (mem_ups.2 ⟨hm, j, hj, rfl, ht, ho⟩)
      rw [pBad, Int.toNat_natCast] at h1
      have h2 := List.any_eq_false.1 (by simpa using h1 : ((ps.getD j []).any fun x => !okC x) = false) x hx
      simpa using h2
    · have h1 := List.any_eq_false.1 hl.1 (j : Int) (mem_ups.2 ⟨hm, j, hj, rfl, ht, ho⟩)
      rw [pLong, Int.toNat_natCast] at h1
      have h2 : ¬ 40 < (ps.getD j []).length := by simpa using h1
      omega
    · have h1 := List.any_eq_false.1 hb.2 e he
      have h2 : eIn c lv e = true := decide_eq_true hle
      rw [eBad, h2] at h1
      have h3 : ¬ (e.wh < 0 ∨ 3 < e.wh) := by simpa using h1
      omega
    · have := of_decide_eq_false hl.2
      omega
  · intro h
    have ha : absB c ps es = false := by
      rw [absB, Bool.or_eq_false_iff]
      refine ⟨List.any_eq_false.2 fun j hj => ?_, List.any_eq_false.2 fun e he => ?_⟩
      · have hj := List.mem_range.1 hj
        by_cases ht : (j : Int) < c.th
        · have : thB c (j : Int) = true := decide_eq_true ⟨hnat j, ht⟩
          rw [pAbs, this]; simp
        · rw [pAbs, h.no j hj (by omega)]; simp
      · have : thB c e.th = true := decide_eq_true (h.eth e he)
        rw [this]; simp
    have hb : badB c ps es lv = false := by
      rw [badB, Bool.or_eq_false_iff]
      refine ⟨List.any_eq_false.2 fun t ht => ?_, List.any_eq_false.2 fun e he => ?_⟩
      · obtain ⟨_, j, h1, rfl, h3, h4⟩ := mem_ups.1 ht
        rw [pBad, Int.toNat_natCast]
        have : ((ps.getD j []).any fun x => !okC x) = false := List.any_eq_false.2 fun x hx => by rw [h.ok j h1 h3 h4 x hx]; simp
        rw [this]; simp
      · by_cases hle : levelOf c e.th ≤ lv
        · have h1 := h.ewh e he hle
          rw [eBad, decide_eq_false (by omega : ¬ (e.wh < 0 ∨ 3 < e.wh))]; simp
        · have : eIn c lv e = false := decide_eq_false hle
          rw [eBad, this]; simp
    have hl : longB c ps es lv = false := by
      rw [longB, Bool.or_eq_false_iff]
      refine ⟨List.any_eq_false.2 fun t ht => ?_, decide_eq_false (by have := h.cnt; omega)⟩
      obtain ⟨_, j, h1, rfl, h3, h4⟩ := mem_ups.1 ht
      rw [pLong, Int.toNat_natCast, decide_eq_false (by have := h.len j h1 h3 h4; omega)]; simp
    rw [ha, hb, hl]
    rfl
theorem OkS.down {c : Cf} {ps : List (List CV)} {es : List En} {lv lv' : Int} (h : OkS c ps es lv) (hl : lv' ≤ lv) : OkS c ps es lv' :=
  ⟨h.may, h.no, h.eth, fun j h1 h2 h3 => h.ok j h1 h2 (by omega), fun j h1 h2 h3 => h.len j h1 h2 (by omega), fun e he h1 => h.ewh e he (by omega), by
    refine Nat.le_trans ?_ h.cnt
    unfold cntE
    have : es.filter (eIn c lv') = (es.filter (eIn c lv)).filter (eIn c lv') := by
      rw [List.filter_filter]
      congr 1
      funext e
      by_cases q : levelOf c e.th ≤ lv'
      · have q2 : levelOf c e.th ≤ lv := by omega
        simp [eIn, q, q2]
      · simp [eIn, q]
    rw [this]
    exact List.length_filter_le _ _⟩
theorem right_down {c : Cf} {ps : List (List CV)} {es : List En} {lv lv' : Int} (h : rightN c ps es lv = 0) (hl : lv' ≤ lv) : rightN c ps es lv' = 0 := rightN_iff.2 ((rightN_iff.1 h).down hl)
/-- What is above a level is gone. -/
def cutP (c : Cf) (lv : Int) (ps : List (List CV)) (k : Nat) : List (List CV) := (List.range 8).map fun j => if j < k ∧ (j : Int) < c.th ∧ lv < c.of j then [] else ps.getD j []
theorem cutP_len (c : Cf) (lv : Int) (ps : List (List CV)) (k : Nat) : (cutP c lv ps k).length = 8 := by simp [cutP]
theorem cutP_get (c : Cf) (lv : Int) (ps : List (List CV)) (k : Nat) {j : Nat} (hj : j < 8) : (cutP c lv ps k).getD j [] = if j < k ∧ (j : Int) < c.th ∧ lv < c.of j then [] else ps.getD j [] := by
  rw [cutP, List.getD_eq_getElem?_getD, List.getElem?_map, List.getElem?_range hj]
  rfl
theorem right_cut {c : Cf} {ps : List (List CV)} {es : List En} {lv : Int} : rightN c (cutP c lv ps 8) es lv = rightN c ps es lv := by
  have e1 : absB c (cutP c lv ps 8) es = absB c ps es := by
    unfold absB
    congr 1
    rw [Bool.eq_iff_iff, List.any_eq_true, List.any_eq_true]
    have hpt : ∀ j, j < 8 → pAbs c (cutP c lv ps 8) j = pAbs c ps j := fun j hj => by
      unfold pAbs
      rw [cutP_get _ _ _ _ hj]
      by_cases h : j < 8 ∧ (j : Int) < c.th ∧ lv < c.of j
      · have : thB c (j : Int) = true := decide_eq_true ⟨Int.natCast_nonneg j, h.2.1⟩
        rw [this]; rfl
      · rw [if_neg h]
    constructor
    · rintro ⟨j, h1, h2⟩; exact ⟨j, h1, by rw [← hpt j (List.mem_range.1 h1)]; exact h2⟩
    · rintro ⟨j, h1, h2⟩; exact ⟨j, h1, by rw [hpt j (List.mem_range.1 h1)]; exact h2⟩
  have hg : ∀ t, t ∈ ups c lv → (cutP c lv ps 8).getD t.toNat [] = ps.getD t.toNat [] := fun t ht => by
    obtain ⟨_, j, h1, rfl, h3, h4⟩ := mem_ups.1 ht
    rw [Int.toNat_natCast, cutP_get _ _ _ _ h1, if_neg (by omega)]
  have hany : ∀ (p : List (List CV) → Int → Bool), (∀ t, t ∈ ups c lv → p (cutP c lv ps 8) t = p ps t) → (ups c lv).any (p (cutP c lv ps 8)) = (ups c lv).any (p ps) := fun p h => by
    rw [Bool.eq_iff_iff, List.any_eq_true, List.any_eq_true]
    constructor
    · rintro ⟨t, h1, h2⟩; exact ⟨t, h1, by rw [← h t h1]; exact h2⟩
    · rintro ⟨t, h1, h2⟩; exact ⟨t, h1, by rw [h t h1]; exact h2⟩
  have e2 : badB c (cutP c lv ps 8) es lv = badB c ps es lv := by
    unfold badB
    rw [hany pBad fun t ht => by unfold pBad; rw [hg t ht]]
  have e3 : longB c (cutP c lv ps 8) es lv = longB c ps es lv := by
    unfold longB
    rw [hany pLong fun t ht => by unfold pLong; rw [hg t ht]]
  unfold rightN
  rw [e1, e2, e3]
/-- Numbers and their bytes. -/
theorem numR_num (n : Nat) : ∀ s : Nat, numR (num s (n : Int)) = ((n % 256 ^ s : Nat) : Int)
  | 0 => by simp [num, numR, Nat.mod_one]
  | s + 1 => by
    rw [num_succ, numR_snoc, numR_num n s, num_len, Nat.pow_succ, Nat.mod_mul, Int.natCast_add, Int.natCast_mul, Int.natCast_emod (n / 256 ^ s) 256, Int.natCast_ediv, Int.natCast_pow, Int.mul_comm (((256 : Nat) : Int) ^ s)]
    rfl
theorem numR_num' {x : Int} {s : Nat} (h0 : 0 ≤ x) (h1 : x < 256 ^ s) : numR (num s x) = x := by
  obtain ⟨n, rfl⟩ : ∃ n : Nat, x = (n : Int) := ⟨x.toNat, by omega⟩
  rw [numR_num]
  have : n < 256 ^ s := by
    have h2 : ((256 ^ s : Nat) : Int) = (256 : Int) ^ s := by simp
    omega
  rw [Nat.mod_eq_of_lt this]
theorem wrap_back {k : Int} (h : I64 k) : wrap64 (IntKind.u64.wrap k) = k := by
  rw [IntKind.wrap_u64]
  unfold I64 at h
  unfold wrap64
  omega
theorem take_num (s : Nat) (x : Int) (r : List Int) : (num s x ++ r).take s = num s x := List.take_left' (num_len s x)
theorem drop_num (s : Nat) (x : Int) (r : List Int) : (num s x ++ r).drop s = r := List.drop_left' (num_len s x)
theorem callL_W {x : CV} (hok : okC x = true) (hk : CVk x) (r : List Int) : callL (callW x ++ r) = x := by
  obtain ⟨o1, o2, o3, o4, o5, o6⟩ := of_decide_eq_true hok
  obtain ⟨⟨ha, hb, hh⟩, hkey⟩ := hk
  have e : callW x ++ r = (x.op :: x.lv :: x.rg :: (num 8 (IntKind.u64.wrap x.key) ++ (num 8 x.a ++ (num 8 x.b ++ (num 8 x.h ++ r))))) := by
    unfold callW
    simp only [List.flatMap_cons, List.flatMap_nil, ub1, List.append_nil, List.append_assoc, List.cons_append, List.nil_append]
    rw [show x.op % 256 = x.op by omega, show x.lv % 256 = x.lv by omega, show x.rg % 256 = x.rg by omega]
  have hw := wrap_u x.key
  rw [e]
  unfold callL callX
  simp only [List.getD_cons_zero, List.getD_cons_succ, List.drop_succ_cons, List.drop_zero]
  rw [take_num, drop_num, take_num, show (16 : Nat) = 8 + 8 by rfl, ← List.drop_drop, drop_num, drop_num, take_num, show (24 : Nat) = 8 + (8 + 8) by rfl, ← List.drop_drop, ← List.drop_drop, drop_num, drop_num, drop_num, take_num,
    numR_num' hw.1 hw.2, numR_num' ha.1 ha.2, numR_num' hb.1 hb.2, numR_num' hh.1 hh.2, wrap_back hkey]
theorem pCalls_W : ∀ (l : List CV) (r : List Int), (∀ x, x ∈ l → okC x = true ∧ CVk x) → pCalls l.length (l.flatMap callW ++ r) = .ok (l, r)
  | [], r, _ => rfl
  | x :: t, r, h => by
    have h1 := h x (by simp)
    rw [List.length_cons, pCalls, List.flatMap_cons, List.append_assoc, if_neg (by rw [List.length_append, callW_len]; omega), callL_W h1.1 h1.2, if_neg (by rw [h1.1]; decide), List.drop_left' (callW_len x), pCalls_W t r (fun y hy => h y (by simp [hy]))]
theorem pProg_W {l : List CV} {r : List Int} (h : ∀ x, x ∈ l → okC x = true ∧ CVk x) (hl : l.length ≤ 40) : pProg (progW l ++ r) = .ok (l, r) := by
  have e : progW l ++ r = (l.length : Int) :: (l.flatMap callW ++ r) := by
    unfold progW
    rw [List.append_assoc]
    simp only [List.flatMap_cons, List.flatMap_nil, num1, List.cons_append, List.nil_append]
    rw [show (l.length : Int) % 256 = (l.length : Int) by omega]
  rw [e, pProg, if_neg (by omega), Int.toNat_natCast, pCalls_W l r h]
end Go.Proofs.YtknngjdcbldmgaaDoor
namespace Go.Proofs.YtknngjdcbldmgaaDoor
set_option linter.unusedVariables false
set_option linter.unusedSimpArgs false
open Go.RowKit

def fillP (ps : List (List CV)) : Nat → Nat → List (List CV) → List (List CV)
  | 0, _, acc => acc
  | g + 1, k, acc => fillP ps g (k + 1) (acc.set k (ps.getD k []))
def progsF (ps : List (List CV)) : Nat → Nat → List Int
  | 0, _ => []
  | g + 1, k => progW (ps.getD k []) ++ progsF ps g (k + 1)
theorem progsF_snoc (ps : List (List CV)) : ∀ (g k : Nat), progsF ps (g + 1) k = progsF ps g k ++ progW (ps.getD (k + g) [])
  | 0, k => by simp [progsF]
  | g + 1, k => by
    rw [progsF, progsF_snoc ps g (k + 1), progsF, List.append_assoc, show k + 1 + g = k + (g + 1) by omega]
theorem progsF_eq (ps : List (List CV)) : ∀ k : Nat, progsF ps k 0 = progsW ps k
  | 0 => rfl
  | k + 1 => by
    rw [progsF_snoc, progsF_eq ps k]
    unfold progsW
    rw [List.range_succ, List.flatMap_append, List.flatMap_cons, List.flatMap_nil, List.append_nil, Nat.zero_add]
theorem fillP_len (ps : List (List CV)) : ∀ (g k : Nat) (acc : List (List CV)), (fillP ps g k acc).length = acc.length
  | 0, _, _ => rfl
  | g + 1, k, acc => by rw [fillP, fillP_len, List.length_set]
theorem fillP_get (ps : List (List CV)) : ∀ (g k : Nat) (acc : List (List CV)) (j : Nat), j < acc.length → (fillP ps g k acc).getD j [] = if k ≤ j ∧ j < k + g then ps.getD j [] else acc.getD j []
  | 0, k, acc, j, _ => by rw [fillP, if_neg (by omega)]
  | g + 1, k, acc, j, hj => by
    rw [fillP, fillP_get ps g (k + 1) _ j (by rw [List.length_set]; exact hj)]
    by_cases h1 : k + 1 ≤ j ∧ j < k + 1 + g
    · rw [if_pos h1, if_pos (by omega)]
    · rw [if_neg h1]
      by_cases h2 : k = j
      · subst h2
        rw [if_pos (by omega), List.getD_eq_getElem?_getD, List.getElem?_set_self hj]
        rfl
      · rw [if_neg (by omega), List.getD_eq_getElem?_getD, List.getElem?_set_ne h2, ← List.getD_eq_getElem?_getD]
theorem pProgs_W {ps : List (List CV)} : ∀ (g k : Nat) (acc : List (List CV)) (r : List Int), (∀ j, k ≤ j → j < k + g → (∀ x, x ∈ ps.getD j [] → okC x = true ∧ CVk x) ∧ (ps.getD j []).length ≤ 40) → pProgs g k acc (progsF ps g k ++ r) = .ok (fillP ps g k acc, r)
  | 0, k, acc, r, _ => rfl
  | g + 1, k, acc, r, h => by
    have h1 := h k (Nat.le_refl _) (by omega)
    rw [progsF, List.append_assoc, pProgs_ok (pProg_W h1.1 h1.2), pProgs_W g (k + 1) _ r fun j a b => h j (by omega) (by omega)]
    rfl
theorem ext8 {a b : List (List CV)} (ha : a.length = 8) (hb : b.length = 8) (h : ∀ j, j < 8 → a.getD j [] = b.getD j []) : a = b := by
  refine List.ext_getElem (by rw [ha, hb]) fun j h1 h2 => ?_
  have := h j (by omega)
  rw [List.getD_eq_getElem?_getD, List.getD_eq_getElem?_getD, List.getElem?_eq_getElem h1, List.getElem?_eq_getElem h2] at this
  exact this
theorem entX_W {e : En} {c : Cf} (hm : c.th ≤ 8) (h1 : 0 ≤ e.th ∧ e.th < c.th) (h2 : 0 ≤ e.wh ∧ e.wh ≤ 3) : okE c (e.th + 8 * e.wh) = true ∧ entX (e.th + 8 * e.wh) = e := by
  have a1 : (e.th + 8 * e.wh) % 8 = e.th := by omega
  have a2 : (e.th + 8 * e.wh) / 8 % 4 = e.wh := by omega
  have a3 : (e.th + 8 * e.wh) / 32 % 8 = 0 := by omega
  refine ⟨?_, ?_⟩
  · rw [okE, a1, a3, show thB c e.th = true from decide_eq_true h1]; rfl
  · unfold entX; rw [a1, a2]
theorem pEnts_W {c : Cf} (hm : c.th ≤ 8) : ∀ (es acc : List En), (∀ e, e ∈ es → (0 ≤ e.th ∧ e.th < c.th) ∧ (0 ≤ e.wh ∧ e.wh ≤ 3)) → acc.length + es.length ≤ 60000 → pEnts c acc (entsW es) = .ok (acc ++ es)
  | [], acc, _, _ => by rw [show entsW [] = [] by rfl, pEnts, List.append_nil]
  | e :: t, acc, h, hl => by
    rw [List.length_cons] at hl
    have h1 := h e (by simp)
    have h2 := entX_W hm h1.1 h1.2
    have e1 : entsW (e :: t) = (e.th + 8 * e.wh) :: entsW t := by
      unfold entsW
      rw [List.flatMap_cons, ent1 ⟨h1.1.1, by omega, h1.2.1, h1.2.2⟩]
      rfl
    rw [e1, pEnts, if_neg (by omega), if_pos h2.1, h2.2, pEnts_W hm t _ (fun x hx => h x (by simp [hx])) (by rw [List.length_append]; simp only [List.length_cons, List.length_nil]; omega), List.append_assoc]
    rfl
theorem confW_eq {c : Cf} (m : c.May) : confW c = [c.lv, c.th, c.o0, c.o1, c.o2, c.o3, c.o4, c.o5, c.o6, c.o7, c.sl, c.li] ++ (num 3 c.ge ++ [c.qu]) := by
  have h0 := m.r 0 (by decide)
  have h1 := m.r 1 (by decide)
  have h2 := m.r 2 (by decide)
  have h3 := m.r 3 (by decide)
  have h4 := m.r 4 (by decide)
  have h5 := m.r 5 (by decide)
  have h6 := m.r 6 (by decide)
  have h7 := m.r 7 (by decide)
  have hl := m.l2
  have hl1 := m.l1
  have e8 : ofW c 8 = [c.of 0 % 256, c.of 1 % 256, c.of 2 % 256, c.of 3 % 256, c.of 4 % 256, c.of 5 % 256, c.of 6 % 256, c.of 7 % 256] := by
    unfold ofW
    simp only [show List.range 8 = [0, 1, 2, 3, 4, 5, 6, 7] by rfl, List.flatMap_cons, List.flatMap_nil, ub1, List.append_nil, List.cons_append, List.nil_append]
  have eg : ub 3 c.ge = num 3 c.ge := by
    unfold ub
    rw [IntKind.wrap_u64, show c.ge % 18446744073709551616 = c.ge by have := m.g1; have := m.g2; omega]
  unfold confW
  rw [e8]
  simp only [List.flatMap_cons, List.flatMap_nil, ub1, eg, List.append_nil, List.cons_append, List.nil_append, List.append_assoc]
  rw [show c.lv % 256 = c.lv by omega, show c.th % 256 = c.th by have := m.t1; have := m.t2; omega, show c.sl % 256 = c.sl by have := m.s1; have := m.s2; omega, show c.li % 256 = c.li by have := m.m1; have := m.m2; omega, show c.qu % 256 = c.qu by have := m.q1; have := m.q2; omega,
    show c.of 0 % 256 = c.o0 by show c.of 0 % 256 = c.of 0; omega, show c.of 1 % 256 = c.o1 by show c.of 1 % 256 = c.of 1; omega, show c.of 2 % 256 = c.o2 by show c.of 2 % 256 = c.of 2; omega, show c.of 3 % 256 = c.o3 by show c.of 3 % 256 = c.of 3; omega, show c.of 4 % 256 = c.o4 by show c.of 4 % 256 = c.of 4; omega, show c.of 5 % 256 = c.o5 by show c.of 5 % 256 = c.of 5; omega, show c.of 6 % 256 = c.o6 by show c.of 6 % 256 = c.of 6; omega, show c.of 7 % 256 = c.o7 by show c.of 7 % 256 = c.of 7; omega]
theorem confL_W {c : Cf} (m : c.May) (r : List Int) : confL (confW c ++ r) = c := by
  have hg : numR (num 3 c.ge) = c.ge := numR_num' (by have := m.g1; omega) (by have h := m.g2; have e : (256 : Int) ^ 3 = 16777216 := rfl; omega)
  have e : num 3 c.ge = [c.ge / 256 ^ 0 % 256, c.ge / 256 ^ 1 % 256, c.ge / 256 ^ 2 % 256] := rfl
  rw [confW_eq m]
  unfold confL
  rw [e] at hg ⊢
  generalize c.ge / 256 ^ 0 % 256 = g0 at *
  generalize c.ge / 256 ^ 1 % 256 = g1 at *
  generalize c.ge / 256 ^ 2 % 256 = g2 at *
  have h3 : (((([c.lv, c.th, c.o0, c.o1, c.o2, c.o3, c.o4, c.o5, c.o6, c.o7, c.sl, c.li] ++ ([g0, g1, g2] ++ [c.qu])) ++ r).drop 12).take 3) = [g0, g1, g2] := rfl
  rw [h3, hg]
  rfl
/-- What is written is read. -/
theorem pScript_W {c : Cf} {ps : List (List CV)} {es : List En} (h8 : ps.length = 8) (hk : ∀ l, l ∈ ps → ∀ x, x ∈ l → CVk x) (hR : rightN c ps es (c.lv - 1) = 0) : pScript (scriptW c ps es) = .ok ⟨c, ps, es⟩ := by
  have h := rightN_iff.1 hR
  have m : c.May := of_decide_eq_true h.may
  have ht1 := m.t1
  have ht2 := m.t2
  have hlv : ∀ t : Int, levelOf c t ≤ c.lv - 1 := fun t => by
    unfold levelOf
    by_cases q : mayB c = true ∧ 0 ≤ t ∧ t < c.th
    · rw [if_pos q]; have := m.r t.toNat (by omega); omega
    · rw [if_neg q]; have := m.l1; omega
  obtain ⟨n, hn⟩ : ∃ n : Nat, c.th = (n : Int) := ⟨c.th.toNat, by omega⟩
  have hlen : es.length ≤ 60000 := by
    have := h.cnt
    unfold cntE at this
    have hf : es.filter (eIn c (c.lv - 1)) = es := List.filter_eq_self.2 fun e _ => decide_eq_true (hlv e.th)
    rw [hf] at this
    exact this
  unfold scriptW pScript
  rw [if_neg (by rw [List.length_append, confW_len]; omega), confL_W m, if_neg (by rw [h.may]; decide), List.drop_left' (confW_len c), hn, Int.toNat_natCast, ← progsF_eq, pProgs_W n 0 nilP (entsW es) (fun j a b => ⟨fun x hx => ⟨h.ok j (by omega) (by omega) (by have := m.r j (by omega); omega) x hx, ?_⟩, h.len j (by omega) (by omega) (by have := m.r j (by omega); omega)⟩)]
  · have he : fillP ps n 0 nilP = ps := by
      refine ext8 (by rw [fillP_len]; rfl) h8 fun j hj => ?_
      rw [fillP_get ps n 0 nilP j hj]
      by_cases q : 0 ≤ j ∧ j < 0 + n
      · rw [if_pos q]
      · rw [if_neg q, h.no j hj (by omega)]
        rcases (by omega : j = 0 ∨ j = 1 ∨ j = 2 ∨ j = 3 ∨ j = 4 ∨ j = 5 ∨ j = 6 ∨ j = 7) with rfl | rfl | rfl | rfl | rfl | rfl | rfl | rfl <;> rfl
    rw [he, pEnd, pEnts_W ht2 es [] (fun e hx => ⟨h.eth e hx, h.ewh e hx (hlv e.th)⟩) (by simpa using hlen)]
    rfl
  · have hj : j < ps.length := by omega
    have e : ps.getD j [] = ps[j] := by rw [List.getD_eq_getElem?_getD, List.getElem?_eq_getElem hj]; rfl
    rw [e] at hx
    exact hk _ (List.getElem_mem hj) x hx
theorem topN_all {c : Cf} {ps : List (List CV)} {es : List En} (hR : rightN c ps es (c.lv - 1) = 0) : topN c ps es (topM c) = c.lv - 1 := by
  have m : c.May := of_decide_eq_true (rightN_iff.1 hR).may
  have h1 := m.l1
  have h2 := m.l2
  obtain ⟨n, hn⟩ : ∃ n : Nat, c.lv = ((n + 1 : Nat) : Int) := ⟨(c.lv - 1).toNat, by omega⟩
  have e : topM c = n + 1 := by unfold topM; omega
  rw [e, topN, if_pos (by rw [← hR]; congr 1; omega)]
  omega
end Go.Proofs.YtknngjdcbldmgaaDoor
namespace Go.Proofs.YtknngjdcbldmgaaDoor
set_option linter.unusedVariables false
set_option linter.unusedSimpArgs false
open Go.RowKit

def By (l : List Int) : Prop := ∀ x, x ∈ l → 0 ≤ x ∧ x < 256
theorem By.drop {l : List Int} (h : By l) (n : Nat) : By (l.drop n) := fun x hx => h x (List.mem_of_mem_drop hx)
theorem By.take {l : List Int} (h : By l) (n : Nat) : By (l.take n) := fun x hx => h x (List.mem_of_mem_take hx)
theorem num_cons (s : Nat) (x : Int) : num (s + 1) x = x % 256 :: num s (x / 256) := by
  unfold num
  rw [List.range_succ_eq_map, List.map_cons, List.map_map]
  congr 1
  · simp
  · refine List.map_congr_left fun i _ => ?_
    show x / 256 ^ (i + 1) % 256 = x / 256 / 256 ^ i % 256
    rw [Int.pow_succ, Int.mul_comm, ← Int.ediv_ediv_of_nonneg (by decide)]
theorem num_numR : ∀ l : List Int, By l → num l.length (numR l) = l
  | [], _ => rfl
  | a :: t, h => by
    have ha := h a (by simp)
    have e : numR (a :: t) = a + 256 * numR t := rfl
    rw [List.length_cons, num_cons, e, show (a + 256 * numR t) % 256 = a by omega, show (a + 256 * numR t) / 256 = numR t by omega, num_numR t fun x hx => h x (by simp [hx])]
theorem num_of {l : List Int} {s : Nat} (h : By l) (hl : l.length = s) : num s (numR l) = l := by
  subst hl
  exact num_numR l h
theorem wrap_fwd {k : Int} (h : U64 k) : IntKind.u64.wrap (wrap64 k) = k := by
  rw [IntKind.wrap_u64]
  unfold U64 at h
  unfold wrap64
  omega
theorem i64_wrap (k : Int) : I64 (wrap64 k) := by unfold I64 wrap64; omega
theorem bt_by {l : List Int} (h : By l) (i : Nat) : 0 ≤ bt l i ∧ bt l i < 256 := by
  by_cases hi : i < l.length
  · have e : bt l i = l[i] := by rw [bt, List.getD_eq_getElem?_getD, List.getElem?_eq_getElem hi]; rfl
    rw [e]
    exact h _ (List.getElem_mem hi)
  · have e : bt l i = 0 := by rw [bt, List.getD_eq_getElem?_getD, List.getElem?_eq_none (by omega)]; rfl
    rw [e]
    omega
theorem callW_L {l : List Int} (h : By l) (hl : 35 ≤ l.length) : callW (callL l) ++ l.drop 35 = l ∧ CVk (callL l) := by
  have u : ∀ n, U64 (numR ((l.drop n).take 8)) := fun n => numR_u ((h.drop n).take 8) (by rw [List.length_take]; omega)
  have e0 : callL l = ⟨bt l 0, bt l 1, wrap64 (numR ((l.drop 3).take 8)), numR ((l.drop 11).take 8), numR ((l.drop 19).take 8), numR ((l.drop 27).take 8), bt l 2⟩ := by
    simp [callL, callX, bt, List.drop_drop]
  have n8 : ∀ n, n + 8 ≤ l.length → num 8 (numR ((l.drop n).take 8)) = (l.drop n).take 8 := fun n hn => num_of ((h.drop n).take 8) (by rw [List.length_take, List.length_drop]; omega)
  have t8 : ∀ n, n + 8 ≤ l.length → (l.drop n).take 8 ++ l.drop (n + 8) = l.drop n := fun n hn => by rw [← List.drop_drop, List.take_append_drop]
  rw [e0]
  refine ⟨?_, ⟨u 11, u 19, u 27⟩, i64_wrap _⟩
  unfold callW
  simp only [List.flatMap_cons, List.flatMap_nil, ub1, List.append_nil, List.append_assoc, List.cons_append, List.nil_append]
  rw [wrap_fwd (u 3), n8 3 (by omega), n8 11 (by omega), n8 19 (by omega), n8 27 (by omega), t8 27 (by omega), t8 19 (by omega), t8 11 (by omega), t8 3 (by omega)]
  have b0 := bt_by h 0
  have b1 := bt_by h 1
  have b2 := bt_by h 2
  rw [show bt l 0 % 256 = bt l 0 by omega, show bt l 1 % 256 = bt l 1 by omega, show bt l 2 % 256 = bt l 2 by omega, ← drop_bt (by omega : 2 < l.length), ← drop_bt (by omega : 1 < l.length), ← drop_bt (by omega : 0 < l.length), List.drop_zero]
def Ok1 (x : CV) : Prop := okC x = true ∧ CVk x
theorem pCalls_L : ∀ (n : Nat) (l : List Int) (xs : List CV) (r : List Int), By l → pCalls n l = .ok (xs, r) → xs.flatMap callW ++ r = l ∧ (∀ x, x ∈ xs → Ok1 x) ∧ xs.length = n ∧ By r
  | 0, l, xs, r, hb, h => by
    rw [pCalls] at h
    injection h with h
    injection h with h1 h2
    subst h1 h2
    exact ⟨rfl, fun x hx => (by cases hx), rfl, hb⟩
  | n + 1, l, xs, r, hb, h => by
    rw [pCalls] at h
    by_cases h1 : l.length < 35
    · rw [if_pos h1] at h; cases h
    rw [if_neg h1] at h
    cases hok : okC (callL l) with
    | false => rw [if_pos hok] at h; cases h
    | true =>
      rw [if_neg (by rw [hok]; decide)] at h
      cases hq : pCalls n (l.drop 35) with
      | error e => rw [hq] at h; cases h
      | ok y =>
        obtain ⟨ys, r'⟩ := y
        rw [hq] at h
        injection h with h
        injection h with h2 h3
        subst h2 h3
        have ih := pCalls_L n _ _ _ (hb.drop 35) hq
        have hw := callW_L hb (by omega)
        refine ⟨?_, fun x hx => ?_, by rw [List.length_cons, ih.2.2.1], ih.2.2.2⟩
        · rw [List.flatMap_cons, List.append_assoc, ih.1, hw.1]
        · rcases List.mem_cons.1 hx with rfl | hx
          · exact ⟨hok, hw.2⟩
          · exact ih.2.1 x hx
theorem pProg_L {l : List Int} {xs : List CV} {r : List Int} (hb : By l) (h : pProg l = .ok (xs, r)) : progW xs ++ r = l ∧ (∀ x, x ∈ xs → Ok1 x) ∧ xs.length ≤ 40 ∧ By r := by
  match l, h, hb with
  | [], h, _ => cases h
  | x :: t, h, hb =>
    have hx := hb x (by simp)
    rw [pProg] at h
    by_cases h40 : 40 < x
    · rw [if_pos h40] at h; cases h
    rw [if_neg h40] at h
    have h1 := pCalls_L _ _ _ _ (fun y hy => hb y (by simp [hy])) h
    refine ⟨?_, h1.2.1, by omega, h1.2.2.2⟩
    unfold progW
    rw [List.append_assoc, h1.1]
    simp only [List.flatMap_cons, List.flatMap_nil, num1, List.cons_append, List.nil_append]
    rw [show (xs.length : Int) % 256 = x by omega]
theorem pProgs_L : ∀ (g k : Nat) (acc ps : List (List CV)) (l r : List Int), By l → pProgs g k acc l = .ok (ps, r) → k + g ≤ acc.length → ps.length = acc.length ∧ progsF ps g k ++ r = l ∧ By r ∧ (∀ j, ¬ (k ≤ j ∧ j < k + g) → ps.getD j [] = acc.getD j []) ∧ (∀ j, k ≤ j → j < k + g → (∀ x, x ∈ ps.getD j [] → Ok1 x) ∧ (ps.getD j []).length ≤ 40)
  | 0, k, acc, ps, l, r, hb, h, _ => by
    rw [pProgs] at h
    injection h with h
    injection h with h1 h2
    subst h1 h2
    exact ⟨rfl, rfl, hb, fun _ _ => rfl, fun j h1 h2 => by omega⟩
  | g + 1, k, acc, ps, l, r, hb, h, hk => by
    cases hq : pProg l with
    | error e => rw [pProgs_error hq] at h; cases h
    | ok y =>
      obtain ⟨xs, r'⟩ := y
      rw [pProgs_ok hq] at h
      have h1 := pProg_L hb hq
      have ih := pProgs_L g (k + 1) _ ps r' r h1.2.2.2 h (by rw [List.length_set]; omega)
      have ek : ps.getD k [] = xs := by
        rw [ih.2.2.2.1 k (by omega), List.getD_eq_getElem?_getD, List.getElem?_set_self (by omega)]
        rfl
      refine ⟨by rw [ih.1, List.length_set], ?_, ih.2.2.1, fun j hj => ?_, fun j h2 h3 => ?_⟩
      · rw [progsF, ek, List.append_assoc, ih.2.1, h1.1]
      · rw [ih.2.2.2.1 j (by omega), List.getD_eq_getElem?_getD, List.getElem?_set_ne (by omega), ← List.getD_eq_getElem?_getD]
      · by_cases hjk : j = k
        · subst hjk
          rw [ek]
          exact ⟨h1.2.1, h1.2.2.1⟩
        · exact ih.2.2.2.2 j (by omega) (by omega)
theorem pEnts_L {c : Cf} (hm : c.th ≤ 8) : ∀ (l : List Int) (acc es : List En), By l → pEnts c acc l = .ok es → acc.length ≤ 60000 → ∃ fs, es = acc ++ fs ∧ entsW fs = l ∧ es.length ≤ 60000 ∧ ∀ e, e ∈ fs → (0 ≤ e.th ∧ e.th < c.th) ∧ (0 ≤ e.wh ∧ e.wh ≤ 3)
  | [], acc, es, hb, h, ha => by
    rw [pEnts] at h
    injection h with h
    subst h
    exact ⟨[], by rw [List.append_nil], rfl, ha, fun e he => by cases he⟩
  | x :: t, acc, es, hb, h, ha => by
    have hx := hb x (by simp)
    rw [pEnts] at h
    by_cases h6 : 60000 ≤ acc.length
    · rw [if_pos h6] at h; cases h
    rw [if_neg h6] at h
    cases hok : okE c x with
    | false => rw [if_neg (by rw [hok]; decide)] at h; cases h
    | true =>
      rw [if_pos hok] at h
      obtain ⟨fs, h1, h2, h3, h4⟩ := pEnts_L hm t _ es (fun y hy => hb y (by simp [hy])) h (by rw [List.length_append]; simp only [List.length_cons, List.length_nil]; omega)
      rw [okE, Bool.and_eq_true, decide_eq_true_eq] at hok
      have ht : 0 ≤ x % 8 ∧ x % 8 < c.th := of_decide_eq_true hok.1
      have e1 : (entX x).th = x % 8 := rfl
      have e2 : (entX x).wh = x / 8 % 4 := rfl
      refine ⟨entX x :: fs, by rw [h1, List.append_assoc]; rfl, ?_, h3, fun e he => ?_⟩
      · unfold entsW at h2 ⊢
        rw [List.flatMap_cons, h2, ent1 ⟨by rw [e1]; omega, by rw [e1]; omega, by rw [e2]; omega, by rw [e2]; omega⟩, e1, e2, show x % 8 + 8 * (x / 8 % 4) = x by omega]
        rfl
      · rcases List.mem_cons.1 he with rfl | he
        · exact ⟨by rw [e1]; exact ht, by rw [e2]; omega⟩
        · exact h4 e he
theorem confW_L {l : List Int} (hb : By l) (hl : 16 ≤ l.length) (m : (confL l).May) : confW (confL l) ++ l.drop 16 = l := by
  have hn : num 3 (numR ((l.drop 12).take 3)) = (l.drop 12).take 3 := num_of ((hb.drop 12).take 3) (by rw [List.length_take, List.length_drop]; omega)
  have e : confW (confL l) = [bt l 0, bt l 1, bt l 2, bt l 3, bt l 4, bt l 5, bt l 6, bt l 7, bt l 8, bt l 9, bt l 10, bt l 11] ++ (num 3 (numR ((l.drop 12).take 3)) ++ [bt l 15]) := confW_eq m
  have h15 : [bt l 15] ++ l.drop 16 = l.drop 15 := (drop_bt (by omega)).symm
  have h12 : (l.drop 12).take 3 ++ l.drop 15 = l.drop 12 := by rw [show l.drop 15 = (l.drop 12).drop 3 by rw [List.drop_drop], List.take_append_drop]
  rw [e, hn, List.append_assoc, List.append_assoc, h15, h12]
  simp only [List.cons_append, List.nil_append]
  rw [← drop_bt (by omega : 11 < l.length), ← drop_bt (by omega : 10 < l.length), ← drop_bt (by omega : 9 < l.length), ← drop_bt (by omega : 8 < l.length), ← drop_bt (by omega : 7 < l.length), ← drop_bt (by omega : 6 < l.length), ← drop_bt (by omega : 5 < l.length), ← drop_bt (by omega : 4 < l.length), ← drop_bt (by omega : 3 < l.length), ← drop_bt (by omega : 2 < l.length), ← drop_bt (by omega : 1 < l.length), ← drop_bt (by omega : 0 < l.length), List.drop_zero]
/-- What is read is right, and is written as the same bytes. -/
theorem pScript_L {l : List Int} {s : Scr} (hb : By l) (h : pScript l = .ok s) : rightN s.c s.ps s.es (s.c.lv - 1) = 0 ∧ scriptW s.c s.ps s.es = l ∧ s.ps.length = 8 ∧ (∀ xs, xs ∈ s.ps → ∀ x, x ∈ xs → CVk x) ∧ (∀ xs, xs ∈ s.ps → xs.length ≤ 40) ∧ s.es.length ≤ 60000 := by
  rw [pScript] at h
  by_cases h16 : l.length < 16
  · rw [if_pos h16] at h; cases h
  rw [if_neg h16] at h
  by_cases hm : mayB (confL l) = false
  · rw [if_pos hm] at h; cases h
  rw [if_neg hm] at h
  have hm : mayB (confL l) = true := by simpa using hm
  have m : (confL l).May := of_decide_eq_true hm
  have hcw := confW_L hb (by omega) m
  generalize confL l = c at *
  have ht1 := m.t1
  have ht2 := m.t2
  obtain ⟨n, hn⟩ : ∃ n : Nat, c.th = (n : Int) := ⟨c.th.toNat, by omega⟩
  rw [hn, Int.toNat_natCast] at h
  cases hp : pProgs n 0 nilP (l.drop 16) with
  | error e => rw [hp] at h; cases h
  | ok y =>
    obtain ⟨ps, r⟩ := y
    rw [hp] at h
    cases he : pEnts c [] r with
    | error e => rw [pEnd, he] at h; cases h
    | ok es =>
      rw [pEnd, he] at h
      injection h with h
      subst h
      have h1 := pProgs_L n 0 nilP ps _ r (hb.drop 16) hp (by rw [nilP_len]; omega)
      obtain ⟨fs, h2, h3, h4, h5⟩ := pEnts_L ht2 r [] es h1.2.2.1 he (Nat.zero_le _)
      rw [List.nil_append] at h2
      subst h2
      have h8 : ps.length = 8 := h1.1
      have hnil : ∀ j, j < 8 → nilP.getD j [] = [] := fun j hj => by
        rcases (by omega : j = 0 ∨ j = 1 ∨ j = 2 ∨ j = 3 ∨ j = 4 ∨ j = 5 ∨ j = 6 ∨ j = 7) with rfl | rfl | rfl | rfl | rfl | rfl | rfl | rfl <;> rfl
      have hall : ∀ xs, xs ∈ ps → (∀ x, x ∈ xs → Ok1 x) ∧ xs.length ≤ 40 := fun xs hx => by
        obtain ⟨j, hj, rfl⟩ := List.getElem_of_mem hx
        have e : ps.getD j [] = ps[j] := by rw [List.getD_eq_getElem?_getD, List.getElem?_eq_getElem hj]; rfl
        rw [← e]
        by_cases q : j < 0 + n
        · exact h1.2.2.2.2 j (Nat.zero_le _) q
        · rw [h1.2.2.2.1 j (by omega), hnil j (by omega)]
          exact ⟨fun x hx => (by cases hx), Nat.zero_le _⟩
      refine ⟨rightN_iff.2 ⟨hm, fun j hj ht => ?_, fun e he => (h5 e he).1, fun j hj ht _ x hx => ((h1.2.2.2.2 j (Nat.zero_le _) (by have ht' : (j : Int) < c.th := ht; omega)).1 x hx).1, fun j hj ht _ => (h1.2.2.2.2 j (Nat.zero_le _) (by have ht' : (j : Int) < c.th := ht; omega)).2, fun e he _ => (h5 e he).2, Nat.le_trans (List.length_filter_le _ _) h4⟩, ?_, h8, fun xs hx x hxx => ((hall xs hx).1 x hxx).2, fun xs hx => (hall xs hx).2, h4⟩
      · have ht' : c.th ≤ (j : Int) := ht
        show ps.getD j [] = []
        rw [h1.2.2.2.1 j (by omega), hnil j hj]
      · show confW c ++ (progsW ps c.th.toNat ++ entsW es) = l
        rw [hn, Int.toNat_natCast, ← progsF_eq, h3, h1.2.1, hcw]
end Go.Proofs.YtknngjdcbldmgaaDoor
namespace Go.Proofs.YtknngjdcbldmgaaDoor
set_option linter.unusedVariables false
set_option linter.unusedSimpArgs false
open Go.RowKit

def SPutR (w : World) (c : Cf) (ps : List (List CV)) (es : List En) (e : Ending) (w' : World) : Prop := Below w.heap.size w w' ∧ ((rightN c ps es (c.lv - 1) = 0 ∧ ∃ A n d, e = .returned (.tuple #[.slice A n d, .nilIface]) ∧ w'.ownsRow w.heap.size 5 1 (.slice A n d) n ((scriptW c ps es).map b8)) ∨ (rightN c ps es (c.lv - 1) ≠ 0 ∧ ∃ p : Nat, e = .returned (.tuple #[.slice none 0 0, .iface 89 (.pointer (some ⟨p, 0, none⟩))])))
theorem sput_all {w : World} {c : Cf} {us : List Value} {ps : List (List CV)} {EA : Option Addr} {en ec : Nat} {es : List En} (hP : PIn (fun _ => False) w us ps) (hE : Sl enc_ w EA en ec es) (hen : en ≤ 1000000) (hps : ∀ l, l ∈ ps → l.length ≤ 1000000) (hU : ∀ l, l ∈ ps → ∀ x, x ∈ l → CVk x) : Calls Tryd.prog 14 #[.agg (scc c us (.slice EA en ec)).toArray] w (SPutR w c ps es) := by
  cases hm : mayB c with
  | false =>
    have hN : ∀ lv, (mayB c = true → lv = c.lv - 1) → rightN c ps es lv = 2 := fun lv _ => by rw [rightN, if_pos hm]
    exact (sput_no2 hP hE hen hps hm (n := 2) (by decide) hN).mono fun e w' ⟨p, a, b, d⟩ => ⟨d, .inr ⟨by rw [rightN, if_pos hm]; decide, p, a⟩⟩
  | true =>
    by_cases hz : rightN c ps es (c.lv - 1) = 0
    · exact (sput_yes hP hE hen hps (fun l hl x hx => (hU l hl x hx).1) hz).mono fun e w' ⟨A, n, d, a, b, f⟩ => ⟨b, .inl ⟨hz, A, n, d, a, f⟩⟩
    · exact (sput_no1 hP hE hen hps hm hz fun lv hl => by rw [hl hm]).mono fun e w' ⟨p, a, b, d⟩ => ⟨d, .inr ⟨hz, p, a⟩⟩
theorem Sl.byteJ {w : World} {b o' n c : Nat} {l : List Int} (h : Sl b8l w (some ⟨b, o', none⟩) n c l) (hb : ∀ x, x ∈ l → 0 ≤ x ∧ x < 256) {i : Nat} (hi : i < l.length) : w.cell? ⟨b, o' + i, none⟩ = some (.int .u8 (bt l i)) ∧ 0 ≤ bt l i ∧ bt l i < 256 := by
  have e : bt l i = l[i] := by rw [bt, List.getD_eq_getElem?_getD, List.getElem?_eq_getElem hi]; rfl
  have h1 : (l.flatMap b8l)[i]? = some (.int .u8 (bt l i)) := by
    have e1 : ∀ l : List Int, l.flatMap b8l = l.map b8 := fun l => by induction l with
      | nil => rfl
      | cons a t ih => rw [List.flatMap_cons, ih]; rfl
    rw [e1, List.getElem?_map, List.getElem?_eq_getElem hi, e]
    rfl
  have h2 := h.rd.some_ _ _ h1
  rw [Addr.add_mid] at h2
  exact ⟨h2, by rw [e]; exact hb _ (List.getElem_mem hi)⟩
/-- The string of a slice of bytes. -/
theorem str_sl {w : World} {A : Option Addr} {n d : Nat} {l : List Int} (h : Sl b8l w A n d l) (hb : By l) (h0 : 0 < n) : (convert 39 9 (.slice A n d)).run Tryd.prog w = .ok (.string (strOfNums l)) w := by
  have hl := h.len
  obtain ⟨g, o', rfl, _, _⟩ := h.base b8l_len (by decide) (by omega)
  exact run_convert_bytes_arg w _ _ Tryd.underlying39 Tryd.underlying5 g o' n _ l h.len (fun i hi => (h.byteJ hb (by omega)).1) _ Tryd.underlying9
end Go.Proofs.YtknngjdcbldmgaaDoor
