/- Rows in memory: whether two lists are the same, where a key is, whether a list rises. -/
import Derived.Test.YtklpnjenddkmaaaPlanR
import Derived.Test.YtklpnjenddkmaaaCopy
import Derived.Test.YtklpnjenddkmaaaProg
import Derived.StillTailTactics
import Derived.Deep.QuietTactic
import Derived.BigQuiet
import Derived.LoopTactic
import Derived.Deep.LoopGhost
namespace Go.Proofs.Ytklpnjenddkmaaa
set_option linter.unusedVariables false
set_option linter.unusedSimpArgs false
open Go.RowKit

structure RV where
  (k a b : Int)
deriving DecidableEq
instance instInhabitedRV : Inhabited RV := ⟨⟨0, 0, 0⟩⟩
def rvc (x : RV) : List Value := [.int .i64 x.k, .int .u64 x.a, .int .u64 x.b]
theorem rvc_len (x : RV) : (rvc x).length = 3 := rfl
theorem info_rvc (x : RV) : (Try.prog.info? 29).map (·.size) = some (rvc x).length := by rw [rvc_len]; kernel_rfl
theorem range_sl {α : Type} {f : α → List Value} {s : Nat} (hf : ∀ x, (f x).length = s) {w : World} {b o n c : Nat} {l : List α} (h : Sl f w (some ⟨b, o, none⟩) n c l) {i : Nat} {x : α} (hi : l[i]? = some x) : w.rangeAt b (o + i * s) (f x) := fun j v hj => by
  have := h.rd.some_ _ _ (flat_get hf l i j x v hi hj)
  have e : ((⟨b, o, none⟩ : Addr).add (i * s + j)) = ⟨b, o + i * s + j, none⟩ := by rw [Addr.add_mid, Nat.add_assoc]
  rw [← e]
  exact this
theorem elem_r : ∃ i, Elem Try.prog 22 29 i (.agg #[.int .i64 0, .int .u64 0, .int .u64 0]) 3 24 := Elem.of Try.underlying22 (by kernel_rfl) rfl (by decide)
theorem rvc_one (l : List RV) : ∀ u ∈ l.flatMap rvc, u.oneCell' = true := fun u hu => by
  obtain ⟨y, _, hy⟩ := List.mem_flatMap.1 hu
  unfold rvc at hy
  simp only [List.mem_cons, List.not_mem_nil, or_false] at hy
  rcases hy with rfl | rfl | rfl <;> rfl
/-- The first row whose key isn't less; whether it is the key's. -/
def idx : List RV → Int → Nat
  | [], _ => 0
  | r :: l, key => if key ≤ r.k then 0 else idx l key + 1
def thr (l : List RV) (key : Int) : Bool := match l[idx l key]? with
  | some r => r.k == key
  | none => false
theorem idx_le (key : Int) : ∀ l : List RV, idx l key ≤ l.length
  | [] => Nat.le_refl _
  | r :: l => by
    rw [idx]
    split
    · omega
    · have := idx_le key l
      simp
      omega
theorem idx_yes (key : Int) : ∀ (l : List RV) (r : RV), l[idx l key]? = some r → key ≤ r.k
  | [], r, h => by simp at h
  | x :: l, r, h => by
    rw [idx] at h
    split at h
    · simp at h
      subst h
      assumption
    · rw [List.getElem?_cons_succ] at h
      exact idx_yes key l r h
theorem idx_no (key : Int) : ∀ (l : List RV) (j : Nat) (r : RV), j < idx l key → l[j]? = some r → r.k < key
  | [], j, r, _, h => by simp at h
  | x :: l, j, r, hj, h => by
    rw [idx] at hj
    split at hj
    · omega
    · cases j with
      | zero => simp at h; subst h; omega
      | succ j => rw [List.getElem?_cons_succ] at h; exact idx_no key l j r (by omega) h
theorem thr_some {l : List RV} {key : Int} {r : RV} (h : l[idx l key]? = some r) : thr l key = (r.k == key) := by unfold thr; rw [h]
theorem thr_none {l : List RV} {key : Int} (h : idx l key = l.length) : thr l key = false := by unfold thr; rw [List.getElem?_eq_none (by omega)]
set_option maxHeartbeats 4000000 in
set_option maxRecDepth 100000 in
theorem neR (x y : RV) (w : World) : (binOp .neq 29 (.agg (rvc x).toArray) (.agg (rvc y).toArray)).run Try.prog w = .ok (.bool (!decide (x = y))) w := by
  obtain ⟨a0, a1, a2⟩ := x
  obtain ⟨b0, b1, b2⟩ := y
  by_cases h0 : a0 = b0
  · subst h0
    by_cases h1 : a1 = b1
    · subst h1
      by_cases h2 : a2 = b2
      · subst h2
        rw [show decide (_ = _) = true from decide_eq_true rfl]
        simp [go_sem, rvc]
      · rw [decide_eq_false (by intro e; injection e; exact h2 (by assumption))]
        simp [go_sem, rvc, h2]
    · rw [decide_eq_false (by intro e; injection e; exact h1 (by assumption))]
      simp [go_sem, rvc, h1]
  · rw [decide_eq_false (by intro e; injection e; exact h0 (by assumption))]
    simp [go_sem, rvc, h0]
set_option maxHeartbeats 4000000 in
set_option maxRecDepth 100000 in
theorem eqR (x y : RV) (w : World) : (binOp .eql 29 (.agg (rvc x).toArray) (.agg (rvc y).toArray)).run Try.prog w = .ok (.bool (decide (x = y))) w := by
  obtain ⟨a0, a1, a2⟩ := x
  obtain ⟨b0, b1, b2⟩ := y
  by_cases h0 : a0 = b0
  · subst h0
    by_cases h1 : a1 = b1
    · subst h1
      by_cases h2 : a2 = b2
      · subst h2
        rw [show decide (_ = _) = true from decide_eq_true rfl]
        simp [go_sem, rvc]
      · rw [decide_eq_false (by intro e; injection e; exact h2 (by assumption))]
        simp [go_sem, rvc, h2]
    · rw [decide_eq_false (by intro e; injection e; exact h1 (by assumption))]
      simp [go_sem, rvc, h1]
  · rw [decide_eq_false (by intro e; injection e; exact h0 (by assumption))]
    simp [go_sem, rvc, h0]
set_option maxHeartbeats 4000000 in
set_option maxRecDepth 100000 in
theorem rsame_any {w : World} {A B : Option Addr} {n n' c d : Nat} {l l' : List RV} (h : Sl rvc w A n c l) (h' : Sl rvc w B n' d l') (hn : n ≤ 9223372036854775807) (hn' : n' ≤ 9223372036854775807) : Calls Try.prog 10 #[.slice A n c, .slice B n' d] w fun r w' => r = .returned (.bool (decide (l = l'))) ∧ Below w.heap.size w w' := by
  by_cases hnn : n = n'
  · subst hnn
    go_enter Try.func10, Try.ntmps10
    go_wp2
    go_loopg [5] n (fun gk i wr => ∃ k : Nat, k + gk = n ∧ i = .int .i64 k ∧ Hid (l.take k = l'.take k) ∧ Below w.heap.size w wr)
    case atStart => exact ⟨0, by omega, rfl, rfl, brefl w⟩
    case round =>
    obtain ⟨k, hk, rfl, hT, kb⟩ := hrel
    by_cases hlt : k < n
    · have hlen := h.len
      have hlen' := h'.len
      obtain ⟨b, o', rfl, _, _⟩ := h.base rvc_len (by decide) (by omega)
      obtain ⟨b', o'', rfl, _, _⟩ := h'.base rvc_len (by decide) (by omega)
      obtain ⟨x, hx⟩ : ∃ x, l[k]? = some x := ⟨l[k]'(by omega), List.getElem?_eq_getElem (i := k) _⟩
      obtain ⟨y, hy⟩ : ∃ y, l'[k]? = some y := ⟨l'[k]'(by omega), List.getElem?_eq_getElem (i := k) _⟩
      have r1 := range_sl rvc_len (h.below kb) hx
      have r2 := range_sl rvc_len (h'.below kb) hy
      have hne := neR x y
      have hi := info_rvc x
      have hi2 := info_rvc y
      have b0 : (0 : Int) ≤ (k : Int) := by omega
      have b1 : (k : Int) < (n : Int) := by omega
      have HS : Hid ((l.take (k + 1) = l'.take (k + 1)) ↔ x = y) := take_eq_step hT.out hx hy
      clear h h' hx hy hlen hlen' hT
      generalize rvc x = cs at *
      generalize rvc y = cs' at *
      go_upto_region 6 with (fail)
      obtain ⟨W3, hW3⟩ : ∃ W3, W3 = wr := ⟨_, rfl⟩
      subst hW3
      by_cases hxy : x = y
      · rw [decide_eq_true hxy] at hne
        have HX : Hid (x = y) := hxy
        clear hxy
        have hX := @Ext.cell W3
        refine wp_region_noPanic ?_
        refine wp_region_plan (fun w' => ∃ x : Ext W3, w' = x.w) [] [0, 1, 2, 3, 4, 5, 6, 7, 8] (by kernel_rfl) (by kernel_rfl) (by kernel_rfl) (fun _ _ _ _ _ h => h) ⟨⟨_, (brefl W3).drew⟩, rfl⟩ ?_
        refine wpPlan_last ?_
        simp only [pickOps, List.getElem?_cons_succ, List.getElem?_cons_zero, Option.elim_some]
        go_big_quiet_step (fail)
        go_big_quiet_step (fail)
        go_big_quiet_step (fail)
        refine wpQuiet_load_mid rfl 29 (.tmp 19) rfl b (o' + k * 3) rfl cs _ (range_ext r1) Try.underlying29 rfl hi ?_; simp only [Act.put, List.setIfInBounds_toArray, List.set_cons_succ, List.set_cons_zero]
        go_big_quiet_step (fail)
        go_big_quiet_step (fail)
        go_big_quiet_step (fail)
        refine wpQuiet_load_mid rfl 29 (.tmp 23) rfl b' (o'' + k * 3) rfl cs' _ (range_ext r2) Try.underlying29 rfl hi2 ?_; simp only [Act.put, List.setIfInBounds_toArray, List.set_cons_succ, List.set_cons_zero]
        go_big_quiet_step (fail)
        refine wpQuiet_nil ?_
        refine NoPanic.normal ?_
        clear hX
        go_wp2_with fail
        go_roundg (gk - 1)
        case measure => omega
        case rel => exact ⟨k + 1, by omega, by go_num, HS.out.2 HX.out, kb.drew⟩
      · rw [decide_eq_false hxy] at hne
        have HX : Hid (¬ x = y) := hxy
        clear hxy
        have hX := @Ext.cell W3
        refine wp_region_noPanic ?_
        refine wp_region_plan (fun w' => ∃ x : Ext W3, w' = x.w) [] [0, 1, 2, 3, 4, 5, 6, 7, 8] (by kernel_rfl) (by kernel_rfl) (by kernel_rfl) (fun _ _ _ _ _ h => h) ⟨⟨_, (brefl W3).drew⟩, rfl⟩ ?_
        refine wpPlan_last ?_
        simp only [pickOps, List.getElem?_cons_succ, List.getElem?_cons_zero, Option.elim_some]
        go_big_quiet_step (fail)
        go_big_quiet_step (fail)
        go_big_quiet_step (fail)
        refine wpQuiet_load_mid rfl 29 (.tmp 19) rfl b (o' + k * 3) rfl cs _ (range_ext r1) Try.underlying29 rfl hi ?_; simp only [Act.put, List.setIfInBounds_toArray, List.set_cons_succ, List.set_cons_zero]
        go_big_quiet_step (fail)
        go_big_quiet_step (fail)
        go_big_quiet_step (fail)
        refine wpQuiet_load_mid rfl 29 (.tmp 23) rfl b' (o'' + k * 3) rfl cs' _ (range_ext r2) Try.underlying29 rfl hi2 ?_; simp only [Act.put, List.setIfInBounds_toArray, List.set_cons_succ, List.set_cons_zero]
        go_big_quiet_step (fail)
        refine wpQuiet_nil ?_
        refine NoPanic.normal ?_
        clear hX
        go_wp2_with fail
        go_ret
        refine ⟨ret_bool ?_, kb.drew⟩
        symm
        rw [decide_eq_false_iff_not]
        intro e
        exact HX.out (HS.out.1 (by rw [e]))
    · have hge : ¬ ((k : Int) < (n : Int)) := by omega
      have HT : Hid (l = l') := by
        have e1 := h.len
        have e2 := h'.len
        have e3 := hT.out
        rwa [List.take_of_length_le (by omega), List.take_of_length_le (by omega)] at e3
      clear h h' hT
      go_wp2
      go_ret
      exact ⟨ret_bool (by simp [HT.out]), kb⟩
  · have hne : ((n : Int) != (n' : Int)) = true := by rw [bne_iff_ne]; omega
    have HL : Hid (¬ l = l') := fun e => by
      have e1 := h.len
      have e2 := h'.len
      rw [e] at e1
      omega
    clear h h' hnn
    go_enter Try.func10, Try.ntmps10
    go_wp2
    go_ret
    exact ⟨ret_bool (by rw [decide_eq_false HL.out]), brefl w⟩
set_option maxHeartbeats 4000000 in
set_option maxRecDepth 100000 in
theorem equal_r {w : World} {A B : Option Addr} {n n' c d : Nat} {l l' : List RV} (h : Sl rvc w A n c l) (h' : Sl rvc w B n' d l') (hn : n ≤ 9223372036854775807) (hn' : n' ≤ 9223372036854775807) : Calls Try.prog 19 #[.slice A n c, .slice B n' d] w fun r w' => r = .returned (.bool (decide (l = l'))) ∧ Below w.heap.size w w' := by
  by_cases hnn : n = n'
  · subst hnn
    go_enter Try.func19, Try.ntmps19
    go_wp2
    go_loopg [13] n (fun gk i wr => ∃ k : Nat, k + gk = n ∧ i = .int .i64 k ∧ Hid (l.take k = l'.take k) ∧ Below w.heap.size w wr)
    case atStart => exact ⟨0, by omega, rfl, rfl, brefl w⟩
    case round =>
    obtain ⟨k, hk, rfl, hT, kb⟩ := hrel
    by_cases hlt : k < n
    · have hlen := h.len
      have hlen' := h'.len
      obtain ⟨b, o', rfl, _, _⟩ := h.base rvc_len (by decide) (by omega)
      obtain ⟨b', o'', rfl, _, _⟩ := h'.base rvc_len (by decide) (by omega)
      obtain ⟨x, hx⟩ : ∃ x, l[k]? = some x := ⟨l[k]'(by omega), List.getElem?_eq_getElem (i := k) _⟩
      obtain ⟨y, hy⟩ : ∃ y, l'[k]? = some y := ⟨l'[k]'(by omega), List.getElem?_eq_getElem (i := k) _⟩
      have r1 := range_sl rvc_len (h.below kb) hx
      have r2 := range_sl rvc_len (h'.below kb) hy
      have hne := neR x y
      have hi := info_rvc x
      have hi2 := info_rvc y
      have b0 : (0 : Int) ≤ (k : Int) := by omega
      have b1 : (k : Int) < (n : Int) := by omega
      have HS : Hid ((l.take (k + 1) = l'.take (k + 1)) ↔ x = y) := take_eq_step hT.out hx hy
      clear h h' hx hy hlen hlen' hT
      generalize rvc x = cs at *
      generalize rvc y = cs' at *
      go_upto_region 6 with (fail)
      obtain ⟨W3, hW3⟩ : ∃ W3, W3 = wr := ⟨_, rfl⟩
      subst hW3
      by_cases hxy : x = y
      · rw [decide_eq_true hxy] at hne
        have HX : Hid (x = y) := hxy
        clear hxy
        have hX := @Ext.cell W3
        refine wp_region_noPanic ?_
        refine wp_region_plan (fun w' => ∃ x : Ext W3, w' = x.w) [] [0, 1, 2, 3, 4, 5, 6, 7, 8] (by kernel_rfl) (by kernel_rfl) (by kernel_rfl) (fun _ _ _ _ _ h => h) ⟨⟨_, (brefl W3).drew⟩, rfl⟩ ?_
        refine wpPlan_last ?_
        simp only [pickOps, List.getElem?_cons_succ, List.getElem?_cons_zero, Option.elim_some]
        go_big_quiet_step (fail)
        go_big_quiet_step (fail)
        go_big_quiet_step (fail)
        refine wpQuiet_load_mid rfl 29 (.tmp 18) rfl b (o' + k * 3) rfl cs _ (range_ext r1) Try.underlying29 rfl hi ?_; simp only [Act.put, List.setIfInBounds_toArray, List.set_cons_succ, List.set_cons_zero]
        go_big_quiet_step (fail)
        go_big_quiet_step (fail)
        go_big_quiet_step (fail)
        refine wpQuiet_load_mid rfl 29 (.tmp 22) rfl b' (o'' + k * 3) rfl cs' _ (range_ext r2) Try.underlying29 rfl hi2 ?_; simp only [Act.put, List.setIfInBounds_toArray, List.set_cons_succ, List.set_cons_zero]
        go_big_quiet_step (fail)
        refine wpQuiet_nil ?_
        refine NoPanic.normal ?_
        clear hX
        go_wp2_with fail
        go_roundg (gk - 1)
        case measure => omega
        case rel => exact ⟨k + 1, by omega, by go_num, HS.out.2 HX.out, kb.drew⟩
      · rw [decide_eq_false hxy] at hne
        have HX : Hid (¬ x = y) := hxy
        clear hxy
        have hX := @Ext.cell W3
        refine wp_region_noPanic ?_
        refine wp_region_plan (fun w' => ∃ x : Ext W3, w' = x.w) [] [0, 1, 2, 3, 4, 5, 6, 7, 8] (by kernel_rfl) (by kernel_rfl) (by kernel_rfl) (fun _ _ _ _ _ h => h) ⟨⟨_, (brefl W3).drew⟩, rfl⟩ ?_
        refine wpPlan_last ?_
        simp only [pickOps, List.getElem?_cons_succ, List.getElem?_cons_zero, Option.elim_some]
        go_big_quiet_step (fail)
        go_big_quiet_step (fail)
        go_big_quiet_step (fail)
        refine wpQuiet_load_mid rfl 29 (.tmp 18) rfl b (o' + k * 3) rfl cs _ (range_ext r1) Try.underlying29 rfl hi ?_; simp only [Act.put, List.setIfInBounds_toArray, List.set_cons_succ, List.set_cons_zero]
        go_big_quiet_step (fail)
        go_big_quiet_step (fail)
        go_big_quiet_step (fail)
        refine wpQuiet_load_mid rfl 29 (.tmp 22) rfl b' (o'' + k * 3) rfl cs' _ (range_ext r2) Try.underlying29 rfl hi2 ?_; simp only [Act.put, List.setIfInBounds_toArray, List.set_cons_succ, List.set_cons_zero]
        go_big_quiet_step (fail)
        refine wpQuiet_nil ?_
        refine NoPanic.normal ?_
        clear hX
        go_wp2_with fail
        go_ret
        refine ⟨ret_bool ?_, kb.drew⟩
        symm
        rw [decide_eq_false_iff_not]
        intro e
        exact HX.out (HS.out.1 (by rw [e]))
    · have hge : ¬ ((k : Int) < (n : Int)) := by omega
      have HT : Hid (l = l') := by
        have e1 := h.len
        have e2 := h'.len
        have e3 := hT.out
        rwa [List.take_of_length_le (by omega), List.take_of_length_le (by omega)] at e3
      clear h h' hT
      go_wp2
      go_ret
      exact ⟨ret_bool (by simp [HT.out]), kb⟩
  · have hne : ((n : Int) != (n' : Int)) = true := by rw [bne_iff_ne]; omega
    have HL : Hid (¬ l = l') := fun e => by
      have e1 := h.len
      have e2 := h'.len
      rw [e] at e1
      omega
    clear h h' hnn
    go_enter Try.func19, Try.ntmps19
    go_wp2
    go_ret
    exact ⟨ret_bool (by rw [decide_eq_false HL.out]), brefl w⟩
set_option maxHeartbeats 4000000 in
set_option maxRecDepth 100000 in
theorem same_any {w : World} {A B : Option Addr} {n n' c d : Nat} {l l' : List RV} (h : Sl rvc w A n c l) (h' : Sl rvc w B n' d l') (hn : n ≤ 9223372036854775807) (hn' : n' ≤ 9223372036854775807) : Calls Try.prog 9 #[.slice A n c, .slice B n' d] w fun r w' => r = .returned (.bool (decide (l = l'))) ∧ Below w.heap.size w w' := by
  have hcall := equal_r h h' hn hn'
  go_enter Try.func9, Try.ntmps9
  go_wp2_with (go_at_call 19; refine hcall.mono ?_; rintro e w' ⟨rfl, hb⟩)
  go_ret
  exact ⟨rfl, hb⟩
set_option maxHeartbeats 4000000 in
set_option maxRecDepth 100000 in
theorem rat_any {w : World} {A : Option Addr} {n c : Nat} {l : List RV} (h : Sl rvc w A n c l) (hn : n ≤ 1000000) (key : Int) : Calls Try.prog 16 #[.slice A n c, .int .i64 key] w fun r w' => r = .returned (.tuple #[.int .i64 (idx l key : Nat), .bool (thr l key)]) ∧ Below w.heap.size w w' := by
  have hil := idx_le key l
  have hlen := h.len
  go_enter Try.func16, Try.ntmps16
  go_wp2
  go_loopg [6] n (fun gk i wr => ∃ k : Nat, k + gk = n ∧ i = .int .i64 k ∧ k ≤ idx l key ∧ wr = w)
  case atStart => exact ⟨0, by omega, rfl, by omega, rfl⟩
  case round =>
    obtain ⟨k, hk, rfl, hki, rfl⟩ := hrel
    by_cases hlt : k < n
    · obtain ⟨b, o, rfl, _, hc⟩ := h.base rvc_len (by decide) (by omega)
      obtain ⟨x, hx⟩ : ∃ x, l[k]? = some x := ⟨l[k]'(by omega), List.getElem?_eq_getElem (i := k) _⟩
      have ck : wr.cell? ⟨b, o + k * 3, none⟩ = some (.int .i64 x.k) := by have h0 := hc k x 0 _ hx rfl; simpa using h0
      have b0 : (0 : Int) ≤ (k : Int) := by omega
      have b1 : (k : Int) < (n : Int) := by omega
      by_cases hy : k = idx l key
      · have HX : Hid (idx l key = k) := hy.symm
        have HT : Hid (thr l key = (x.k == key)) := thr_some (by rw [← hy]; exact hx)
        have hge : key ≤ x.k := idx_yes key l x (by rw [← hy]; exact hx)
        clear hy hx hc hil hki
        go_wp2
        go_quiet (fail)
        go_wp2
        go_ret2
        exact ⟨by rw [HX.out, HT.out]; rfl, below_drewN (brefl _) _⟩
      · have hlt2 : k < idx l key := by omega
        have hno := idx_no key l k x hlt2 hx
        have hge : ¬ key ≤ x.k := by omega
        clear hx hc hy
        go_wp2
        go_roundg (gk - 1)
        case measure => omega
        case rel => exact ⟨k + 1, by omega, by go_num, by omega, rfl⟩
    · have hge : ¬ ((k : Int) < (n : Int)) := by omega
      have HI : Hid (idx l key = n) := by show _ = _; omega
      have HT : Hid (thr l key = false) := thr_none (by rw [hlen]; exact HI.out)
      clear hil hki
      go_wp2
      go_ret2
      exact ⟨by rw [HI.out, HT.out]; rfl, brefl _⟩
/-- Whether a list rises. -/
def risB (l : List RV) : Bool := (List.range (l.length - 1)).all fun j => decide ((l.getD j ⟨0, 0, 0⟩).k < (l.getD (j + 1) ⟨0, 0, 0⟩).k)
theorem ris_no {l : List RV} {j : Nat} {x y : RV} (hx : l[j]? = some x) (hy : l[j + 1]? = some y) (h : y.k ≤ x.k) : risB l = false := by
  unfold risB
  rw [List.all_eq_false]
  have hj := (List.getElem?_eq_some_iff.1 hy).1
  refine ⟨j, List.mem_range.2 (by omega), ?_⟩
  rw [List.getD_eq_getElem?_getD, List.getD_eq_getElem?_getD, hx, hy]
  simp
  exact h
theorem ris_yes {l : List RV} (h : ∀ j x y, l[j]? = some x → l[j + 1]? = some y → x.k < y.k) : risB l = true := by
  unfold risB
  rw [List.all_eq_true]
  intro j hj
  have hj := List.mem_range.1 hj
  have h0 : j < l.length := by omega
  have h1 : j + 1 < l.length := by omega
  have := h j _ _ (List.getElem?_eq_getElem h0) (List.getElem?_eq_getElem h1)
  rw [List.getD_eq_getElem?_getD, List.getD_eq_getElem?_getD, List.getElem?_eq_getElem h0, List.getElem?_eq_getElem h1]
  exact decide_eq_true this
def risUp (l : List RV) (k : Nat) : Prop := ∀ j x y, j + 1 < k → l[j]? = some x → l[j + 1]? = some y → x.k < y.k
set_option maxHeartbeats 4000000 in
set_option maxRecDepth 100000 in
theorem rises_any {w : World} {A : Option Addr} {n c : Nat} {l : List RV} (h : Sl rvc w A n c l) (hn : n ≤ 1000000) : Calls Try.prog 17 #[.slice A n c] w fun r w' => r = .returned (.bool (risB l)) ∧ Below w.heap.size w w' := by
  have hlen := h.len
  go_enter Try.func17, Try.ntmps17
  go_wp2
  go_loopg [3] n (fun gk i wr => ∃ k : Nat, k + gk = n + 1 ∧ 1 ≤ k ∧ i = .int .i64 k ∧ Hid (risUp l k) ∧ Below w.heap.size w wr)
  case atStart => exact ⟨1, by omega, by omega, rfl, fun j x y h => by omega, brefl w⟩
  case round =>
    obtain ⟨k, hk, h1, rfl, hR, kb⟩ := hrel
    by_cases hlt : k < n
    · obtain ⟨b, o, rfl, _, hc⟩ := (h.below kb).base rvc_len (by decide) (by omega)
      obtain ⟨j, rfl⟩ : ∃ j, k = j + 1 := ⟨k - 1, by omega⟩
      obtain ⟨x, hx⟩ : ∃ x, l[j]? = some x := ⟨l[j]'(by omega), List.getElem?_eq_getElem (i := j) _⟩
      obtain ⟨y, hy⟩ : ∃ y, l[j + 1]? = some y := ⟨l[j + 1]'(by omega), List.getElem?_eq_getElem (i := j + 1) _⟩
      have cj : wr.cell? ⟨b, o + j * 3, none⟩ = some (.int .i64 x.k) := by have h0 := hc j x 0 _ hx rfl; simpa using h0
      have ck : wr.cell? ⟨b, o + (j + 1) * 3, none⟩ = some (.int .i64 y.k) := by have h0 := hc (j + 1) y 0 _ hy rfl; simpa using h0
      have b0 : (0 : Int) ≤ ((j + 1 : Nat) : Int) := by omega
      have b1 : ((j + 1 : Nat) : Int) < (n : Int) := by omega
      have e1 : IntKind.i64.wrap (((j + 1 : Nat) : Int) - 1) = (j : Int) := by rw [IntKind.wrap_i64]; omega
      have b2 : (0 : Int) ≤ (j : Int) := by omega
      have b3 : (j : Int) < (n : Int) := by omega
      by_cases hxy : x.k < y.k
      · have HR : Hid (risUp l (j + 1 + 1)) := fun i u v hi hu hv => by
          by_cases hij : i = j
          · subst hij
            rw [hx] at hu
            rw [hy] at hv
            cases hu
            cases hv
            exact hxy
          · exact hR.out i u v (by omega) hu hv
        have hng : decide (y.k ≤ x.k) = false := decide_eq_false (by omega)
        clear hx hy hc hR hxy
        go_wp2
        go_quiet (fail)
        obtain ⟨W3, hW3, kb3⟩ : ∃ W3, wr.drewN nq = W3 ∧ Below w.heap.size w W3 := ⟨_, rfl, below_drewN kb _⟩
        rw [hW3]
        clear hW3 cj ck
        go_wp2
        go_roundg (gk - 1)
        case measure => omega
        case rel => exact ⟨j + 1 + 1, by omega, by omega, by go_num, HR, kb3⟩
      · have HR := Lib.hid (ris_no hx hy (by omega))
        have hng : y.k ≤ x.k := by omega
        clear hx hy hc hR hxy
        go_wp2
        go_quiet (fail)
        go_wp2
        go_ret
        exact ⟨by rw [HR.out]; rfl, below_drewN kb _⟩
    · have hge : ¬ ((k : Int) < (n : Int)) := by omega
      have HR : Hid (risB l = true) := ris_yes fun j x y hx hy => hR.out j x y (by have := (List.getElem?_eq_some_iff.1 hy).1; omega) hx hy
      clear hR
      go_wp2
      go_ret
      exact ⟨by rw [HR.out]; rfl, kb⟩
end Go.Proofs.Ytklpnjenddkmaaa
