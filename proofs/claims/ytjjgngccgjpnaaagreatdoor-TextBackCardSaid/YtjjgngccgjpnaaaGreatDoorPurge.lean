/- Scripts: calls, entries, configurations in memory; whether they are the same. -/
import Derived.Test.YtjjgngccgjpnaaaGreatDoorConfC
import Derived.Test.YtjjgngccgjpnaaaGreatDoorPlanR
import Derived.Test.YtjjgngccgjpnaaaGreatDoorCopy
namespace Go.Proofs.YtjjgngccgjpnaaaGreatDoor
set_option linter.unusedVariables false
set_option linter.unusedSimpArgs false
open Go.RowKit

structure CV where
  (op lv key a b h rg : Int)
deriving DecidableEq
structure En where
  (th wh : Int)
deriving DecidableEq
def cvc (x : CV) : List Value := [.int .i64 x.op, .int .i64 x.lv, .int .i64 x.key, .int .u64 x.a, .int .u64 x.b, .int .u64 x.h, .int .i64 x.rg]
def enc_ (x : En) : List Value := [.int .i64 x.th, .int .i64 x.wh]
theorem cvc_len (x : CV) : (cvc x).length = 7 := rfl
theorem enc__len (x : En) : (enc_ x).length = 2 := rfl
theorem cfc_len (x : Cf) : (cfc x).length = 14 := rfl
theorem info_cvc (x : CV) : (Tryz.prog.info? 51).map (·.size) = some (cvc x).length := by rw [cvc_len]; kernel_rfl
theorem info_enc_ (x : En) : (Tryz.prog.info? 61).map (·.size) = some (enc_ x).length := by rw [enc__len]; kernel_rfl
theorem info_cfc (x : Cf) : (Tryz.prog.info? 25).map (·.size) = some (cfc x).length := by rw [cfc_len]; kernel_rfl
theorem range_blk {w : World} {g : Nat} {t : TypeId} {l l' : List Value} (h : Blk w g t l.toArray) (off : Nat) (hl : (l.drop off).take l'.length = l') : w.rangeAt g off l' := fun j v hj => by
  rw [h.cell, List.getElem?_toArray]
  rw [← hl, List.getElem?_take] at hj
  split at hj
  · rwa [List.getElem?_drop] at hj
  · cases hj
theorem range_sl {α : Type} {f : α → List Value} {s : Nat} (hf : ∀ x, (f x).length = s) {w : World} {b o n c : Nat} {l : List α} (h : Sl f w (some ⟨b, o, none⟩) n c l) {i : Nat} {x : α} (hi : l[i]? = some x) : w.rangeAt b (o + i * s) (f x) := fun j v hj => by
  have := h.rd.some_ _ _ (flat_get hf l i j x v hi hj)
  have e : ((⟨b, o, none⟩ : Addr).add (i * s + j)) = ⟨b, o + i * s + j, none⟩ := by rw [Addr.add_mid, Nat.add_assoc]
  rw [← e]
  exact this
set_option maxHeartbeats 4000000 in
set_option maxRecDepth 100000 in
theorem neV (x y : CV) (w : World) : (binOp .neq 51 (.agg (cvc x).toArray) (.agg (cvc y).toArray)).run Tryz.prog w = .ok (.bool (!decide (x = y))) w := by
  obtain ⟨a0, a1, a2, a3, a4, a5, a6⟩ := x
  obtain ⟨b0, b1, b2, b3, b4, b5, b6⟩ := y
  by_cases h0 : a0 = b0
  · subst h0
    by_cases h1 : a1 = b1
    · subst h1
      by_cases h2 : a2 = b2
      · subst h2
        by_cases h3 : a3 = b3
        · subst h3
          by_cases h4 : a4 = b4
          · subst h4
            by_cases h5 : a5 = b5
            · subst h5
              by_cases h6 : a6 = b6
              · subst h6
                rw [show decide (_ = _) = true from decide_eq_true rfl]
                simp [go_sem, cvc]
              · rw [decide_eq_false (by intro e; injection e; exact h6 (by assumption))]
                simp [go_sem, cvc, h6]
            · rw [decide_eq_false (by intro e; injection e; exact h5 (by assumption))]
              simp [go_sem, cvc, h5]
          · rw [decide_eq_false (by intro e; injection e; exact h4 (by assumption))]
            simp [go_sem, cvc, h4]
        · rw [decide_eq_false (by intro e; injection e; exact h3 (by assumption))]
          simp [go_sem, cvc, h3]
      · rw [decide_eq_false (by intro e; injection e; exact h2 (by assumption))]
        simp [go_sem, cvc, h2]
    · rw [decide_eq_false (by intro e; injection e; exact h1 (by assumption))]
      simp [go_sem, cvc, h1]
  · rw [decide_eq_false (by intro e; injection e; exact h0 (by assumption))]
    simp [go_sem, cvc, h0]
set_option maxHeartbeats 4000000 in
set_option maxRecDepth 100000 in
theorem neE (x y : En) (w : World) : (binOp .neq 61 (.agg (enc_ x).toArray) (.agg (enc_ y).toArray)).run Tryz.prog w = .ok (.bool (!decide (x = y))) w := by
  obtain ⟨a0, a1⟩ := x
  obtain ⟨b0, b1⟩ := y
  by_cases h0 : a0 = b0
  · subst h0
    by_cases h1 : a1 = b1
    · subst h1
      rw [show decide (_ = _) = true from decide_eq_true rfl]
      simp [go_sem, enc_]
    · rw [decide_eq_false (by intro e; injection e; exact h1 (by assumption))]
      simp [go_sem, enc_, h1]
  · rw [decide_eq_false (by intro e; injection e; exact h0 (by assumption))]
    simp [go_sem, enc_, h0]
set_option maxHeartbeats 4000000 in
set_option maxRecDepth 100000 in
theorem neF (x y : Cf) (w : World) : (binOp .neq 25 (.agg (cfc x).toArray) (.agg (cfc y).toArray)).run Tryz.prog w = .ok (.bool (!decide (x = y))) w := by
  obtain ⟨a0, a1, a2, a3, a4, a5, a6, a7, a8, a9, a10, a11, a12, a13⟩ := x
  obtain ⟨b0, b1, b2, b3, b4, b5, b6, b7, b8, b9, b10, b11, b12, b13⟩ := y
  by_cases h0 : a0 = b0
  · subst h0
    by_cases h1 : a1 = b1
    · subst h1
      by_cases h2 : a2 = b2
      · subst h2
        by_cases h3 : a3 = b3
        · subst h3
          by_cases h4 : a4 = b4
          · subst h4
            by_cases h5 : a5 = b5
            · subst h5
              by_cases h6 : a6 = b6
              · subst h6
                by_cases h7 : a7 = b7
                · subst h7
                  by_cases h8 : a8 = b8
                  · subst h8
                    by_cases h9 : a9 = b9
                    · subst h9
                      by_cases h10 : a10 = b10
                      · subst h10
                        by_cases h11 : a11 = b11
                        · subst h11
                          by_cases h12 : a12 = b12
                          · subst h12
                            by_cases h13 : a13 = b13
                            · subst h13
                              rw [show decide (_ = _) = true from decide_eq_true rfl]
                              simp [go_sem, cfc, arr8, eqElems]
                            · rw [decide_eq_false (by intro e; injection e; exact h13 (by assumption))]
                              simp [go_sem, cfc, h13, arr8, eqElems]
                          · rw [decide_eq_false (by intro e; injection e; exact h12 (by assumption))]
                            simp [go_sem, cfc, h12, arr8, eqElems]
                        · rw [decide_eq_false (by intro e; injection e; exact h11 (by assumption))]
                          simp [go_sem, cfc, h11, arr8, eqElems]
                      · rw [decide_eq_false (by intro e; injection e; exact h10 (by assumption))]
                        simp [go_sem, cfc, h10, arr8, eqElems]
                    · rw [decide_eq_false (by intro e; injection e; exact h9 (by assumption))]
                      simp [go_sem, cfc, h9, arr8, eqElems]
                  · rw [decide_eq_false (by intro e; injection e; exact h8 (by assumption))]
                    simp [go_sem, cfc, h8, arr8, eqElems]
                · rw [decide_eq_false (by intro e; injection e; exact h7 (by assumption))]
                  simp [go_sem, cfc, h7, arr8, eqElems]
              · rw [decide_eq_false (by intro e; injection e; exact h6 (by assumption))]
                simp [go_sem, cfc, h6, arr8, eqElems]
            · rw [decide_eq_false (by intro e; injection e; exact h5 (by assumption))]
              simp [go_sem, cfc, h5, arr8, eqElems]
          · rw [decide_eq_false (by intro e; injection e; exact h4 (by assumption))]
            simp [go_sem, cfc, h4, arr8, eqElems]
        · rw [decide_eq_false (by intro e; injection e; exact h3 (by assumption))]
          simp [go_sem, cfc, h3, arr8, eqElems]
      · rw [decide_eq_false (by intro e; injection e; exact h2 (by assumption))]
        simp [go_sem, cfc, h2, arr8, eqElems]
    · rw [decide_eq_false (by intro e; injection e; exact h1 (by assumption))]
      simp [go_sem, cfc, h1, arr8, eqElems]
  · rw [decide_eq_false (by intro e; injection e; exact h0 (by assumption))]
    simp [go_sem, cfc, h0, arr8, eqElems]
set_option maxHeartbeats 4000000 in
set_option maxRecDepth 100000 in
theorem eqF (x y : Cf) (w : World) : (binOp .eql 25 (.agg (cfc x).toArray) (.agg (cfc y).toArray)).run Tryz.prog w = .ok (.bool (decide (x = y))) w := by
  obtain ⟨a0, a1, a2, a3, a4, a5, a6, a7, a8, a9, a10, a11, a12, a13⟩ := x
  obtain ⟨b0, b1, b2, b3, b4, b5, b6, b7, b8, b9, b10, b11, b12, b13⟩ := y
  by_cases h0 : a0 = b0
  · subst h0
    by_cases h1 : a1 = b1
    · subst h1
      by_cases h2 : a2 = b2
      · subst h2
        by_cases h3 : a3 = b3
        · subst h3
          by_cases h4 : a4 = b4
          · subst h4
            by_cases h5 : a5 = b5
            · subst h5
              by_cases h6 : a6 = b6
              · subst h6
                by_cases h7 : a7 = b7
                · subst h7
                  by_cases h8 : a8 = b8
                  · subst h8
                    by_cases h9 : a9 = b9
                    · subst h9
                      by_cases h10 : a10 = b10
                      · subst h10
                        by_cases h11 : a11 = b11
                        · subst h11
                          by_cases h12 : a12 = b12
                          · subst h12
                            by_cases h13 : a13 = b13
                            · subst h13
                              rw [show decide (_ = _) = true from decide_eq_true rfl]
                              simp [go_sem, cfc, arr8, eqElems]
                            · rw [decide_eq_false (by intro e; injection e; exact h13 (by assumption))]
                              simp [go_sem, cfc, h13, arr8, eqElems]
                          · rw [decide_eq_false (by intro e; injection e; exact h12 (by assumption))]
                            simp [go_sem, cfc, h12, arr8, eqElems]
                        · rw [decide_eq_false (by intro e; injection e; exact h11 (by assumption))]
                          simp [go_sem, cfc, h11, arr8, eqElems]
                      · rw [decide_eq_false (by intro e; injection e; exact h10 (by assumption))]
                        simp [go_sem, cfc, h10, arr8, eqElems]
                    · rw [decide_eq_false (by intro e; injection e; exact h9 (by assumption))]
                      simp [go_sem, cfc, h9, arr8, eqElems]
                  · rw [decide_eq_false (by intro e; injection e; exact h8 (by assumption))]
                    simp [go_sem, cfc, h8, arr8, eqElems]
                · rw [decide_eq_false (by intro e; injection e; exact h7 (by assumption))]
                  simp [go_sem, cfc, h7, arr8, eqElems]
              · rw [decide_eq_false (by intro e; injection e; exact h6 (by assumption))]
                simp [go_sem, cfc, h6, arr8, eqElems]
            · rw [decide_eq_false (by intro e; injection e; exact h5 (by assumption))]
              simp [go_sem, cfc, h5, arr8, eqElems]
          · rw [decide_eq_false (by intro e; injection e; exact h4 (by assumption))]
            simp [go_sem, cfc, h4, arr8, eqElems]
        · rw [decide_eq_false (by intro e; injection e; exact h3 (by assumption))]
          simp [go_sem, cfc, h3, arr8, eqElems]
      · rw [decide_eq_false (by intro e; injection e; exact h2 (by assumption))]
        simp [go_sem, cfc, h2, arr8, eqElems]
    · rw [decide_eq_false (by intro e; injection e; exact h1 (by assumption))]
      simp [go_sem, cfc, h1, arr8, eqElems]
  · rw [decide_eq_false (by intro e; injection e; exact h0 (by assumption))]
    simp [go_sem, cfc, h0, arr8, eqElems]
set_option maxHeartbeats 4000000 in
set_option maxRecDepth 100000 in
theorem calls_any {w : World} {A B : Option Addr} {n n' c d : Nat} {l l' : List CV} (h : Sl cvc w A n c l) (h' : Sl cvc w B n' d l') (hn : n ≤ 9223372036854775807) (hn' : n' ≤ 9223372036854775807) : Calls Tryz.prog 34 #[.slice A n c, .slice B n' d] w fun r w' => r = .returned (.bool (decide (l = l'))) ∧ Below w.heap.size w w' := by
  by_cases hnn : n = n'
  · subst hnn
    go_enter Tryz.func34, Tryz.ntmps34
    go_wp2
    go_loopg [5] n (fun gk i wr => ∃ k : Nat, k + gk = n ∧ i = .int .i64 k ∧ Hid (l.take k = l'.take k) ∧ Below w.heap.size w wr)
    case atStart => exact ⟨0, by omega, rfl, rfl, brefl w⟩
    case round =>
    obtain ⟨k, hk, rfl, hT, kb⟩ := hrel
    by_cases hlt : k < n
    · have hlen := h.len
      have hlen' := h'.len
      obtain ⟨b, o', rfl, _, _⟩ := h.base cvc_len (by decide) (by omega)
      obtain ⟨b', o'', rfl, _, _⟩ := h'.base cvc_len (by decide) (by omega)
      obtain ⟨x, hx⟩ : ∃ x, l[k]? = some x := ⟨l[k]'(by omega), List.getElem?_eq_getElem (i := k) _⟩
      obtain ⟨y, hy⟩ : ∃ y, l'[k]? = some y := ⟨l'[k]'(by omega), List.getElem?_eq_getElem (i := k) _⟩
      have r1 := range_sl cvc_len (h.below kb) hx
      have r2 := range_sl cvc_len (h'.below kb) hy
      have hne := neV x y
      have hi := info_cvc x
      have hi2 := info_cvc y
      have b0 : (0 : Int) ≤ (k : Int) := by omega
      have b1 : (k : Int) < (n : Int) := by omega
      have HS : Hid ((l.take (k + 1) = l'.take (k + 1)) ↔ x = y) := take_eq_step hT.out hx hy
      clear h h' hx hy hlen hlen' hT
      generalize cvc x = cs at *
      generalize cvc y = cs' at *
      go_upto_region 6 with (fail)
      obtain ⟨W3, hW3⟩ : ∃ W3, W3 = wr := ⟨_, rfl⟩
      subst hW3
      by_cases hxy : x = y
      · rw [decide_eq_true hxy] at hne
        have HX : Hid (x = y) := hxy
        clear hxy
        have hX := @Ext.cell W3
        refine wp_region_noPanic ?_
        refine wp_region_plan (fun w' => ∃ x : Ext W3, w' = x.w) [] [0, 1, 2, 3, 4, 5, 6, 7, 8] (by kernel_rfl) (by kernel_rfl) (by kernel_rfl) (fun _ _ _ _ _ h => h) ⟨⟨_, (brefl W3).drew⟩, rfl⟩ ?_
        refine wpPlan_last ?_
        simp only [pickOps, List.getElem?_cons_succ, List.getElem?_cons_zero, Option.elim_some]
        go_big_quiet_step (fail)
        go_big_quiet_step (fail)
        go_big_quiet_step (fail)
        refine wpQuiet_load_mid rfl 51 (.tmp 19) rfl b (o' + k * 7) rfl cs _ (range_ext r1) Tryz.underlying51 rfl hi ?_; simp only [Act.put, List.setIfInBounds_toArray, List.set_cons_succ, List.set_cons_zero]
        go_big_quiet_step (fail)
        go_big_quiet_step (fail)
        go_big_quiet_step (fail)
        refine wpQuiet_load_mid rfl 51 (.tmp 23) rfl b' (o'' + k * 7) rfl cs' _ (range_ext r2) Tryz.underlying51 rfl hi2 ?_; simp only [Act.put, List.setIfInBounds_toArray, List.set_cons_succ, List.set_cons_zero]
        go_big_quiet_step (fail)
        refine wpQuiet_nil ?_
        refine NoPanic.normal ?_
        clear hX
        go_wp2_with fail
        go_roundg (gk - 1)
        case measure => omega
        case rel => exact ⟨k + 1, by omega, by go_num, HS.out.2 HX.out, kb.drew⟩
      · rw [decide_eq_false hxy] at hne
        have HX : Hid (¬ x = y) := hxy
        clear hxy
        have hX := @Ext.cell W3
        refine wp_region_noPanic ?_
        refine wp_region_plan (fun w' => ∃ x : Ext W3, w' = x.w) [] [0, 1, 2, 3, 4, 5, 6, 7, 8] (by kernel_rfl) (by kernel_rfl) (by kernel_rfl) (fun _ _ _ _ _ h => h) ⟨⟨_, (brefl W3).drew⟩, rfl⟩ ?_
        refine wpPlan_last ?_
        simp only [pickOps, List.getElem?_cons_succ, List.getElem?_cons_zero, Option.elim_some]
        go_big_quiet_step (fail)
        go_big_quiet_step (fail)
        go_big_quiet_step (fail)
        refine wpQuiet_load_mid rfl 51 (.tmp 19) rfl b (o' + k * 7) rfl cs _ (range_ext r1) Tryz.underlying51 rfl hi ?_; simp only [Act.put, List.setIfInBounds_toArray, List.set_cons_succ, List.set_cons_zero]
        go_big_quiet_step (fail)
        go_big_quiet_step (fail)
        go_big_quiet_step (fail)
        refine wpQuiet_load_mid rfl 51 (.tmp 23) rfl b' (o'' + k * 7) rfl cs' _ (range_ext r2) Tryz.underlying51 rfl hi2 ?_; simp only [Act.put, List.setIfInBounds_toArray, List.set_cons_succ, List.set_cons_zero]
        go_big_quiet_step (fail)
        refine wpQuiet_nil ?_
        refine NoPanic.normal ?_
        clear hX
        go_wp2_with fail
        go_ret
        refine ⟨ret_bool ?_, kb.drew⟩
        symm
        rw [decide_eq_false_iff_not]
        intro e
        exact HX.out (HS.out.1 (by rw [e]))
    · have hge : ¬ ((k : Int) < (n : Int)) := by omega
      have HT : Hid (l = l') := by
        have e1 := h.len
        have e2 := h'.len
        have e3 := hT.out
        rwa [List.take_of_length_le (by omega), List.take_of_length_le (by omega)] at e3
      clear h h' hT
      go_wp2
      go_ret
      exact ⟨ret_bool (by simp [HT.out]), kb⟩
  · have hne : ((n : Int) != (n' : Int)) = true := by rw [bne_iff_ne]; omega
    have HL : Hid (¬ l = l') := fun e => by
      have e1 := h.len
      have e2 := h'.len
      rw [e] at e1
      omega
    clear h h' hnn
    go_enter Tryz.func34, Tryz.ntmps34
    go_wp2
    go_ret
    exact ⟨ret_bool (by rw [decide_eq_false HL.out]), brefl w⟩
end Go.Proofs.YtjjgngccgjpnaaaGreatDoor
