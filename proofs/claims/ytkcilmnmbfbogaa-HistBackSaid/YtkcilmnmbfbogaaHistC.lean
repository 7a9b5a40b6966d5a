/- Histories: opers in memory; whether they are the same; those that aren't answered. -/
import Derived.Test.YtkcilmnmbfbogaaHistB
namespace Go.Proofs.Ytkcilmnmbfbogaa
set_option linter.unusedVariables false
set_option linter.unusedSimpArgs false
open Go.RowKit

def opc (x : Opp) : List Value := [.int .i64 x.th, .int .i64 x.c.op, .int .i64 x.c.lv, .int .i64 x.c.key, .int .u64 x.c.a, .int .u64 x.c.b, .int .u64 x.c.h, .int .i64 x.c.rg, .int .i64 x.a.er, .int .u64 x.a.ra, .int .u64 x.a.rb, .int .u64 x.a.rh, .int .i64 x.a.n, .int .i64 x.a.k, .int .i64 x.fr, .int .i64 x.fin]
theorem opc_len (x : Opp) : (opc x).length = 16 := rfl
set_option maxHeartbeats 4000000 in
set_option maxRecDepth 100000 in
theorem neO (x : Opp) (w : World) : (binOp .neq 39 (.agg (opc x).toArray) (.agg (opc x).toArray)).run Try.prog w = .ok (.bool false) w := by
  simp [go_sem, opc]
theorem info_O (x : Opp) : (Try.prog.info? 39).map (·.size) = some (opc x).length := by rw [opc_len]; kernel_rfl
set_option maxHeartbeats 4000000 in
set_option maxRecDepth 100000 in
theorem opersame_eq {w : World} {A B : Option Addr} {n c d : Nat} {l : List Opp} (h : Sl opc w A n c l) (h' : Sl opc w B n d l) (hn : n ≤ 1000000) : Calls Try.prog 11 #[.slice A n c, .slice B n d] w fun r w' => r = .returned (.bool true) ∧ Below w.heap.size w w' := by
  go_enter Try.func11, Try.ntmps11
  go_wp2
  go_loopg [5] n (fun gk i wr => ∃ k : Nat, k + gk = n ∧ i = .int .i64 k ∧ Below w.heap.size w wr)
  case atStart => exact ⟨0, by omega, rfl, brefl w⟩
  case round =>
    obtain ⟨k, hk, rfl, kb⟩ := hrel
    by_cases hlt : k < n
    · have hlen := h.len
      obtain ⟨b, o', rfl, _, _⟩ := h.base opc_len (by decide) (by omega)
      obtain ⟨b', o'', rfl, _, _⟩ := h'.base opc_len (by decide) (by omega)
      obtain ⟨x, hx⟩ : ∃ x, l[k]? = some x := ⟨l[k]'(by omega), List.getElem?_eq_getElem (i := k) _⟩
      have r1 := range_sl opc_len (h.below kb) hx
      have r2 := range_sl opc_len (h'.below kb) hx
      have hne := neO x
      have hi := info_O x
      have b0 : (0 : Int) ≤ (k : Int) := by omega
      have b1 : (k : Int) < (n : Int) := by omega
      clear h h' hx hlen
      generalize opc x = cs at *
      go_wp2_with fail
      obtain ⟨W3, hW3⟩ : ∃ W3, W3 = wr := ⟨_, rfl⟩
      subst hW3
      have hX := @Ext.cell W3
      refine wp_region_noPanic ?_
      refine wp_region_plan (fun w' => ∃ x : Ext W3, w' = x.w) [] [0, 1, 2, 3, 4, 5, 6, 7, 8] (by kernel_rfl) (by kernel_rfl) (by kernel_rfl) (fun _ _ _ _ _ h => h) ⟨⟨_, (brefl W3).drew⟩, rfl⟩ ?_
      refine wpPlan_last ?_
      simp only [pickOps, List.getElem?_cons_succ, List.getElem?_cons_zero, Option.elim_some]
      go_big_quiet_step (fail)
      go_big_quiet_step (fail)
      go_big_quiet_step (fail)
      refine wpQuiet_load_mid rfl 39 (.tmp 19) rfl b (o' + k * 16) rfl cs _ (range_ext r1) Try.underlying39 rfl hi ?_; simp only [Act.put, List.setIfInBounds_toArray, List.set_cons_succ, List.set_cons_zero]
      go_big_quiet_step (fail)
      go_big_quiet_step (fail)
      go_big_quiet_step (fail)
      refine wpQuiet_load_mid rfl 39 (.tmp 23) rfl b' (o'' + k * 16) rfl cs _ (range_ext r2) Try.underlying39 rfl hi ?_; simp only [Act.put, List.setIfInBounds_toArray, List.set_cons_succ, List.set_cons_zero]
      go_big_quiet_step (fail)
      refine wpQuiet_nil ?_
      refine NoPanic.normal ?_
      clear hX
      go_wp2_with fail
      go_roundg (gk - 1)
      case measure => omega
      case rel => exact ⟨k + 1, by omega, by go_num, kb.drew⟩
    · have hge : ¬ ((k : Int) < (n : Int)) := by omega
      clear h h'
      go_wp2
      go_ret
      exact ⟨rfl, kb⟩
theorem elem_i : ∃ i, Elem Try.prog 28 3 i (.int .i64 0) 1 8 := Elem.of Try.underlying28 (by kernel_rfl) rfl (by decide)
/-- The places of those that aren't answered. -/
def openL (l : List Opp) : Nat → List Int
  | 0 => []
  | k + 1 => openL l k ++ (match l[k]? with | some o => if o.fin < 0 then [(k : Int)] else [] | none => [])
def ic (x : Int) : List Value := [.int .i64 x]
theorem openL_len (l : List Opp) : ∀ k, (openL l k).length ≤ k
  | 0 => Nat.le_refl _
  | k + 1 => by
    have := openL_len l k
    rw [openL, List.length_append]
    cases l[k]? with
    | none => simp; omega
    | some o => dsimp only; split <;> simp <;> omega
set_option maxHeartbeats 4000000 in
set_option maxRecDepth 100000 in
theorem open_any {w : World} {A : Option Addr} {n c : Nat} {l : List Opp} (h : Sl opc w A n c l) (hn : n ≤ 100000) : Calls Try.prog 12 #[.slice A n c] w fun r w' => ∃ A' c', r = .returned (.slice A' (openL l n).length c') ∧ w'.ownsRow w.heap.size 3 1 (.slice A' (openL l n).length c') (openL l n).length ((openL l n).flatMap ic) ∧ Below w.heap.size w w' := by
  obtain ⟨i0, E⟩ := elem_i
  have hlen := h.len
  go_enter Try.func12, Try.ntmps12
  go_wp2
  go_loopg [3, 8] n (fun gk out i wr => ∃ (k m : Nat) (A' : Option Addr) (c' : Nat), k + gk = n ∧ i = .int .i64 k ∧ out = .slice A' m c' ∧ Hid (m = (openL l k).length) ∧ wr.ownsRow w.heap.size 3 1 (.slice A' m c') m ((openL l k).flatMap ic) ∧ Below w.heap.size w wr)
  case atStart => exact ⟨0, 0, none, 0, by omega, rfl, rfl, rfl, World.ownsRow_nil _ _ _ _, brefl w⟩
  case round =>
    obtain ⟨k, m, A', c', hk, rfl, rfl, hm, own, kb⟩ := hrel
    by_cases hlt : k < n
    · obtain ⟨b, o', rfl, _, _⟩ := h.base opc_len (by decide) (by omega)
      obtain ⟨x, hx⟩ : ∃ x, l[k]? = some x := ⟨l[k]'(by omega), List.getElem?_eq_getElem (i := k) _⟩
      have r1 : wr.rangeAt b (o' + k * 16) [.int .i64 x.th, .int .i64 x.c.op, .int .i64 x.c.lv, .int .i64 x.c.key, .int .u64 x.c.a, .int .u64 x.c.b, .int .u64 x.c.h, .int .i64 x.c.rg, .int .i64 x.a.er, .int .u64 x.a.ra, .int .u64 x.a.rb, .int .u64 x.a.rh, .int .i64 x.a.n, .int .i64 x.a.k, .int .i64 x.fr, .int .i64 x.fin] := range_sl opc_len (h.below kb) hx
      have b0 : (0 : Int) ≤ (k : Int) := by omega
      have b1 : (k : Int) < (n : Int) := by omega
      have hmk : m ≤ k := by have := hm.out; have := openL_len l k; omega
      have HS : Hid (openL l (k + 1) = openL l k ++ (if x.fin < 0 then [(k : Int)] else [])) := by rw [Hid, openL, hx]
      clear hx h hlen
      obtain ⟨W1, hW1, hE, own1, kb1⟩ : ∃ W1, wr.alloc (.cells #[.int .i64 x.th, .int .i64 x.c.op, .int .i64 x.c.lv, .int .i64 x.c.key, .int .u64 x.c.a, .int .u64 x.c.b, .int .u64 x.c.h, .int .i64 x.c.rg, .int .i64 x.a.er, .int .u64 x.a.ra, .int .u64 x.a.rb, .int .u64 x.a.rh, .int .i64 x.a.n, .int .i64 x.a.k, .int .i64 x.fr, .int .i64 x.fin] 39) = W1 ∧ Blk W1 wr.heap.size 39 #[.int .i64 x.th, .int .i64 x.c.op, .int .i64 x.c.lv, .int .i64 x.c.key, .int .u64 x.c.a, .int .u64 x.c.b, .int .u64 x.c.h, .int .i64 x.c.rg, .int .i64 x.a.er, .int .u64 x.a.ra, .int .u64 x.a.rb, .int .u64 x.a.rh, .int .i64 x.a.n, .int .i64 x.a.k, .int .i64 x.fr, .int .i64 x.fin] ∧ W1.ownsRow w.heap.size 3 1 (.slice A' m c') m ((openL l k).flatMap ic) ∧ Below w.heap.size w W1 := ⟨_, rfl, Blk.new _ _ _, own.alloc _, bnew kb _⟩
      have HW := Lib.hid hW1
      clear hW1
      go_upto_region 5 with (refine wpList_load_mid (op := ⟨some 12, _, _, _, _, _⟩) rfl 39 (.tmp 11) rfl b (o' + k * 16) rfl [.int .i64 x.th, .int .i64 x.c.op, .int .i64 x.c.lv, .int .i64 x.c.key, .int .u64 x.c.a, .int .u64 x.c.b, .int .u64 x.c.h, .int .i64 x.c.rg, .int .i64 x.a.er, .int .u64 x.a.ra, .int .u64 x.a.rb, .int .u64 x.a.rh, .int .i64 x.a.n, .int .i64 x.a.k, .int .i64 x.fr, .int .i64 x.fin] _ r1 Try.underlying39 rfl (by kernel_rfl) ?_)
      rw [HW.out]
      have d15 : W1.cell? ⟨wr.heap.size, 15, none⟩ = some (.int .i64 x.fin) := hE.cell 15
      have hzE := hE.lt
      clear r1 hE own kb HW
      by_cases hf : x.fin < 0
      · have HF := Lib.hid hf
        go_wp2_with (at_builtin; refine wpList_onto (W0 := w) (ys := [.int .i64 (k : Int)]) (m := 1) E rfl (.tmp 16) (.tmp 18) rfl (bnew kb1 _) rfl (own1.alloc _) rfl rfl (Rd.new _ _ _ rfl) (by simp [Value.oneCell']) (by unfold maxLen; omega) (by omega) ?_; intro A8 c8 w8 own8 hb8 _)
        go_roundg (gk - 1)
        case measure => omega
        case rel =>
          refine ⟨k + 1, m + 1, A8, c8, by omega, by go_num, rfl, ?_, ?_, hb8⟩
          · rw [Hid, HS.out, if_pos HF.out, hm.out]; simp
          · rw [HS.out, if_pos HF.out, List.flatMap_append]
            exact own8
      · have tf : decide (x.fin < 0) = false := decide_eq_false hf
        have HF : Hid (openL l (k + 1) = openL l k) := by rw [Hid, HS.out, if_neg hf, List.append_nil]
        go_wp2_with fail
        go_roundg (gk - 1)
        case measure => omega
        case rel =>
          refine ⟨k + 1, m, A', c', by omega, by go_num, rfl, ?_, ?_, kb1⟩
          · rw [Hid, HF.out]; exact hm.out
          · rw [HF.out]
            exact own1
    · have hge : ¬ ((k : Int) < (n : Int)) := by omega
      obtain rfl : k = n := by omega
      have hm' := hm.out
      subst hm'
      clear h
      go_wp2
      go_ret
      exact ⟨A', c', rfl, own, kb⟩
end Go.Proofs.Ytkcilmnmbfbogaa
