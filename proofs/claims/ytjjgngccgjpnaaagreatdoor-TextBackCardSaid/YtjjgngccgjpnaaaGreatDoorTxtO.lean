/- Lines and words of a text; the plain parser. -/
import Derived.Test.YtjjgngccgjpnaaaGreatDoorTxtN
import Derived.Test.YtjjgngccgjpnaaaGreatDoorScrF
namespace Go.Proofs.YtjjgngccgjpnaaaGreatDoor
set_option linter.unusedVariables false
set_option linter.unusedSimpArgs false
open Go.RowKit

/-- What stands ahead of the first c, and behind it. -/
def brk (c : UInt8) : List UInt8 → Option (List UInt8 × List UInt8)
  | [] => none
  | x :: t => if x = c then some ([], t) else (brk c t).map fun p => (x :: p.1, p.2)
theorem brk_eq {c : UInt8} : ∀ {s : List UInt8} {p : List UInt8 × List UInt8}, brk c s = some p → s = p.1 ++ c :: p.2
  | [], p, h => by cases h
  | x :: t, p, h => by
    unfold brk at h
    by_cases hx : x = c
    · rw [if_pos hx] at h
      cases h
      rw [hx]
      rfl
    · rw [if_neg hx] at h
      cases hb : brk c t with
      | none => rw [hb] at h; cases h
      | some q =>
        rw [hb] at h
        cases h
        rw [List.cons_append, ← brk_eq hb]
theorem index_brk (c : UInt8) : ∀ s : List UInt8, Lib.index s [c] = match brk c s with | none => -1 | some p => (p.1.length : Int)
  | [] => rfl
  | x :: t => by
    unfold Lib.index brk
    by_cases hx : x = c
    · subst hx
      rw [if_pos (by simp), if_pos rfl]
      rfl
    · rw [if_neg (by simp; exact fun e => hx e.symm), if_neg hx, index_brk c t]
      cases brk c t with
      | none => rfl
      | some q =>
        have h1 : ((q.1.length : Int) == -1) = false := by rw [beq_eq_false_iff_ne]; omega
        simp [h1]
theorem cut_brk (c : UInt8) (s : List UInt8) : Lib.cut s [c] = match brk c s with | none => (s, [], false) | some p => (p.1, p.2, true) := by
  unfold Lib.cut
  rw [index_brk]
  cases hb : brk c s with
  | none => rw [if_neg (by simp)]
  | some p =>
    have hs := brk_eq hb
    simp only []
    rw [if_pos (by omega), Int.toNat_natCast]
    conv => lhs; rw [hs]
    simp [List.drop_append, List.take_append]
/-- Cut at each c. -/
def spl (c : UInt8) : List UInt8 → List (List UInt8)
  | [] => [[]]
  | x :: t => if x = c then [] :: spl c t else (x :: (spl c t).head?.getD []) :: (spl c t).drop 1
theorem spl_ne (c : UInt8) (s : List UInt8) : spl c s ≠ [] := by
  cases s with
  | nil => simp [spl]
  | cons x t => unfold spl; split <;> simp
theorem spl_brk (c : UInt8) : ∀ s : List UInt8, spl c s = match brk c s with | none => [s] | some p => p.1 :: spl c p.2
  | [] => rfl
  | x :: t => by
    have e1 : spl c (x :: t) = if x = c then [] :: spl c t else (x :: (spl c t).head?.getD []) :: (spl c t).drop 1 := rfl
    have e2 : brk c (x :: t) = if x = c then some ([], t) else (brk c t).map fun p => (x :: p.1, p.2) := rfl
    rw [e1, e2]
    by_cases hx : x = c
    · rw [if_pos hx, if_pos hx]
    · rw [if_neg hx, if_neg hx, spl_brk c t]
      cases brk c t with
      | none => rfl
      | some q => rfl
theorem split_spl (c : UInt8) : ∀ (n : Nat) (s : List UInt8), s.length ≤ n → Lib.splitK [c] 0 (Lib.count s [c]) s = spl c s
  | n, s, hn => by
    have hi := index_brk c s
    rw [spl_brk]
    cases hb : brk c s with
    | none =>
      rw [hb] at hi
      rw [Lib.count_miss hi]
      rfl
    | some p =>
      rw [hb] at hi
      have hs := brk_eq hb
      have hd : s.drop (p.1.length + [c].length) = p.2 := by
        conv => lhs; rw [hs]
        simp [List.drop_append]
      have ht : s.take (p.1.length + 0) = p.1 := by
        conv => lhs; rw [hs]
        simp [List.take_append]
      have hl : p.2.length < s.length := by
        conv => rhs; rw [hs]
        simp
        omega
      rw [Lib.count_hit (by simp) hi, hd, Nat.add_comm]
      unfold Lib.splitK
      have h1 : ((p.1.length : Int) == -1) = false := by rw [beq_eq_false_iff_ne]; omega
      have e1 : (Lib.index s [c]).toNat = p.1.length := by rw [hi]; rfl
      rw [e1, hi]
      simp only []
      rw [h1, if_neg (by simp), ht, hd]
      match n, hn with
      | 0, hn => omega
      | m + 1, hn => rw [split_spl c m p.2 (by omega)]
theorem spl_len (c : UInt8) : ∀ s : List UInt8, (spl c s).length ≤ s.length + 1
  | [] => by simp [spl]
  | x :: t => by
    have := spl_len c t
    unfold spl
    split
    · simp; omega
    · simp; omega
theorem spl_mem (c : UInt8) : ∀ (s : List UInt8) (x : List UInt8), x ∈ spl c s → x.length ≤ s.length
  | [], x, h => by simp [spl] at h; subst h; simp
  | y :: t, x, h => by
    unfold spl at h
    split at h
    · rcases List.mem_cons.1 h with q | q
      · subst q; simp
      · have := spl_mem c t x q; simp; omega
    · rcases List.mem_cons.1 h with q | q
      · subst q
        have hne := spl_ne c t
        have := spl_mem c t ((spl c t).head hne) (List.head_mem hne)
        rw [List.head?_eq_some_head hne]
        simp
        exact this
      · have := spl_mem c t x (List.mem_of_mem_drop q)
        simp
        omega
def nil8P : List (List CV) := [[], [], [], [], [], [], [], []]
def st0 : St := ⟨cf0, nil8P, [], 0, false, ⟨-1, 0⟩⟩
def pStep (n : Nat) (s : St) (ws : Wd) : Option St := if n = 0 then (pConf ws).map fun c => { s with c := c } else pLine s ws
/-- The lines of a text, from line n on; the number of the line that can't stand there. -/
def pLines : Nat → Nat → St → List UInt8 → Except Nat St
  | 0, _, s, _ => .ok s
  | g + 1, n, s, t => if 0 < n ∧ t = [] then .ok s else match brk 10 t with
    | none => .error (n + 1)
    | some p => match pStep n s (spl 32 p.1) with
      | none => .error (n + 1)
      | some s' => pLines g (n + 1) s' p.2
/-- The script of a text, or a line and a code. -/
def pTake (t : List UInt8) : Except (Nat × Int) St := match pLines (t.length + 1) 0 st0 t with
  | .error n => .error (n, 3)
  | .ok s => if rightN s.c s.ps s.es (IntKind.i64.wrap (s.c.lv - 1)) = 0 then .ok s else .error (0, rightN s.c s.ps s.es (IntKind.i64.wrap (s.c.lv - 1)))
theorem pOf_le : ∀ (m k : Nat) (c c' : Cf) (ws : Wd), pOf m k c ws = some c' → k ≤ 8 → m + k ≤ 8 ∧ c'.th = c.th
  | 0, k, c, c', ws, h, hk => by
    cases h
    exact ⟨by omega, rfl⟩
  | m + 1, k, c, c', ws, h, hk => by
    unfold pOf at h
    by_cases h8 : 8 ≤ k
    · rw [if_pos h8] at h; cases h
    · rw [if_neg h8] at h
      obtain ⟨v, _, hv⟩ := Option.bind_eq_some_iff.1 h
      obtain ⟨h1, h2⟩ := pOf_le m (k + 1) _ c' ws hv (by omega)
      exact ⟨by omega, by rw [h2, setO_th]⟩
theorem pConf_th {ws : Wd} {c : Cf} (h : pConf ws = some c) : c.th ≤ 8 := by
  unfold pConf at h
  obtain ⟨f, _, h⟩ := Option.bind_eq_some_iff.1 h
  obtain ⟨lv, _, h⟩ := Option.bind_eq_some_iff.1 h
  obtain ⟨th, _, h⟩ := Option.bind_eq_some_iff.1 h
  obtain ⟨c1, h1, h⟩ := Option.bind_eq_some_iff.1 h
  obtain ⟨h2, h3⟩ := pOf_le _ _ _ _ _ h1 (by omega)
  have h3' : c1.th = th := h3
  unfold pConf4 at h
  obtain ⟨_, _, h⟩ := Option.bind_eq_some_iff.1 h
  obtain ⟨_, _, h⟩ := Option.bind_eq_some_iff.1 h
  obtain ⟨_, _, h⟩ := Option.bind_eq_some_iff.1 h
  obtain ⟨_, _, h⟩ := Option.bind_eq_some_iff.1 h
  split at h
  · cases h
    show c1.th ≤ 8
    rw [h3']
    omega
  · cases h
end Go.Proofs.YtjjgngccgjpnaaaGreatDoor
