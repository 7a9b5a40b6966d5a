/- What, of a word that there is. -/
import Derived.Test.YtpnhpiniflcciaaPlanF
namespace Go.Proofs.Ytpnhpiniflcciaa
set_option linter.unusedVariables false
set_option linter.unusedSimpArgs false
open Go.RowKit

theorem base_9 (w : World) : Calls Try.prog 54 #[.int .i64 9] w fun e w' => e = .returned (.int .i64 1) ∧ w = w' := base_any 9 w
set_option maxHeartbeats 1500000 in
set_option maxRecDepth 100000 in
theorem what_yes {c : Cf} {p : Nat} {w : World} (h : PBox w p c) (hm : c.May) (a : Int) (ha : 0 ≤ a) (hl : a < c.lv * c.size) : Calls Try.prog 38 #[.pointer (some ⟨p, 0, none⟩), .int .i64 a] w fun e w' => e = .returned (.tuple #[.agg #[.int .i64 (c.what a).m, .int .i64 (c.what a).k, .int .i64 (c.what a).i, .int .i64 (c.what a).j], .bool true]) ∧ Below w.heap.size w w' := by
  have hmb := mul_bd hm
  have hsb := size_bd hm
  have hfb := fst_bd c hm.m1 hm.s1
  have hS : 0 < c.size := by omega
  have hr0 := Int.emod_nonneg a (Int.ne_of_gt hS)
  have hr1 := Int.emod_lt_of_pos a hS
  have hq0 : 0 ≤ a / c.size := Int.ediv_nonneg ha (Int.le_of_lt hS)
  have hq1 : a / c.size ≤ a := Int.ediv_le_self _ ha
  have d1 : Int.tdiv a c.size = a / c.size := Int.tdiv_eq_ediv_of_nonneg ha
  have d2 : Int.tmod a c.size = a % c.size := Int.tmod_eq_emod_of_nonneg ha
  have hf0 : c.fst 0 = 0 := rfl
  have hf10 : c.fst 10 = c.size := rfl
  have hwhat : Hid (∀ k : Nat, k < 10 → c.fst k ≤ a % c.size → a % c.size < c.fst (k + 1) → c.what a = if k = 9 then ⟨a / c.size, 9, (a % c.size - c.fst k) / 5 + 1, (a % c.size - c.fst k) % 5⟩ else ⟨a / c.size, k, a % c.size - c.fst k + baseOf k, 0⟩) := fun k hk h1 h2 => by
    have e : c.kindOf (a % c.size) = k := kind_only c hm.m1 hm.s1 hk h1 h2
    unfold Cf.what
    dsimp only
    rw [e]
  obtain ⟨W0, hW, xb, kb, hp⟩ : ∃ W0, w.alloc (.cells #[.int .i64 0, .int .i64 0, .int .i64 0, .int .i64 0] 63) = W0 ∧ XBox W0 w.heap.size 0 0 0 0 ∧ Below w.heap.size w W0 ∧ PBox W0 p c := ⟨_, rfl, XBox.new w 0 0 0 0 _, bnew (brefl w) _, h.below (bnew (brefl w) _)⟩
  have hwd := words_any hp hm
  have t1 : decide (a < 0) = false := decide_eq_false (by omega)
  have t2 : decide (c.lv * c.size ≤ a) = false := decide_eq_false (by omega)
  have hpw : p < w.heap.size := block_lt_of_cell h.c0
  clear h
  go_enter Try.func38, Try.ntmps38
  go_wp2_with fail
  clear hW
  refine hwd.mono ?_
  rintro e w1 ⟨rfl, hb1⟩
  have xb := xb.below hb1
  have hp := hp.below hb1
  have kb := bnext kb hb1
  have hs := fun w (h : PBox w p c) => size_any h
  have hRz := block_lt_of_cell xb.c0
  clear hwd hb1
  go_wp2_with (go_at_call 53; refine (hs _ (by first | exact hp | exact hp.below (bnew (brefl _) _))).mono ?_; rintro e w2 ⟨rfl, rfl⟩)
  obtain ⟨W2, hW2, qb, rb, pb, kb2⟩ : ∃ W2, w1.alloc (.cells #[.int .i64 (a / c.size), .int .i64 0, .int .i64 0, .int .i64 0] 63) = W2 ∧ XBox W2 w1.heap.size (a / c.size) 0 0 0 ∧ XBox W2 w.heap.size 0 0 0 0 ∧ PBox W2 p c ∧ Below w.heap.size w W2 :=
    ⟨_, rfl, XBox.new w1 _ 0 0 0 _, xb.below (bnew (brefl _) _), hp.below (bnew (brefl _) _), bnew kb _⟩
  rw [hW2]
  clear hW2
  have hRQ : w.heap.size ≠ w1.heap.size := by omega
  have hpQ : p ≠ w1.heap.size := by omega
  have hwQ : w.heap.size ≤ w1.heap.size := by omega
  have hpR : p ≠ w.heap.size := by omega
  generalize w1.heap.size = Q at *
  clear xb hp kb hRz hs d1 d2 t1 t2 hq1 hl
  generalize a / c.size = q at *
  generalize a % c.size = r at *
  go_loopg [] 9 (fun gk wr => ∃ k : Nat, k + gk = 9 ∧ c.fst k ≤ r ∧ XBox wr Q q k 0 0 ∧ XBox wr w.heap.size 0 0 0 0 ∧ PBox wr p c ∧ Below w.heap.size w wr)
  case atStart => exact ⟨0, rfl, by omega, qb, rb, pb, kb2⟩
  case round =>
    clear qb rb pb kb2
    obtain ⟨k, hk, hfk, qb, rb, pb, hbr⟩ := hrel
    have ck := pb.fs (k + 1) (by omega)
    have hz := block_lt_of_cell ck
    have hzQ := block_lt_of_cell qb.c0
    have i0 : (0 : Int) ≤ (k : Int) + 1 := by omega
    have i1 : (k : Int) + 1 < 11 := by omega
    have i5 : ((k : Int) + 1).toNat = k + 1 := by omega
    have hw1 : IntKind.i64.wrap ((k : Int) + 1) = (k : Int) + 1 := IntWalk.i64_in _ (by omega)
    obtain ⟨y0, y1, y2, y3, e0, e1, e2, e3⟩ := qb
    by_cases g : c.fst (k + 1) ≤ r
    · have hk9 : k < 9 := by
        by_cases e : k = 9
        · subst e
          exact absurd (Int.le_trans (Int.le_of_eq hf10.symm) g) (by omega)
        · omega
      have HQ := fun w2 (hb : Below wr.heap.size wr w2) => (XBox.mk y0 y1 y2 y3 e0 e1 e2 e3).below hb
      have hg := g
      generalize hF : c.fst (k + 1) = F at *
      have HF : Hid (c.fst (k + 1) = F) := hF
      clear hF hfk hfb hf10 hf0 hwhat
      go_wp2_with fail
      go_quiet (fail)
      go_wp2
      go_roundg (gk - 1)
      case measure => omega
      case rel =>
        refine ⟨k + 1, by omega, by rw [HF.out]; exact hg, ?_, ?_, ?_, ?_⟩
        · exact ((XBox.mk y0 y1 y2 y3 e0 e1 e2 e3).below (below_drewN (brefl wr) nq)).set1 _
        · exact (rb.below (below_drewN (brefl wr) nq)).other (Ne.symm hRQ) _ _
        · exact (pb.drewN nq).set (Ne.symm hpQ) _ _
        · exact bset (p := ⟨Q, 1, none⟩) (below_drewN hbr nq) hwQ _
    · have t1 : decide (c.fst (k + 1) ≤ r) = false := decide_eq_false g
      go_wp2_with fail
      go_quiet (fail)
      have hfb9 := hfb k (by omega)
      have hkk := (many_bd hm k (by omega)).2
      have hmf := many_fst c k (by omega)
      have hwt := hwhat.out k (by omega) hfk (by omega)
      have HW : Hid (c.what a = _) := hwt
      clear hwt hwhat
      have ckk := pb.fs k (by omega)
      have hn0 : 0 ≤ r - c.fst k := by omega
      have hn1 : r - c.fst k < 300 := by omega
      have y0 := keep_below y0 (below_drewN (brefl wr) nq)
      have y1 := keep_below y1 (below_drewN (brefl wr) nq)
      have y2 := keep_below y2 (below_drewN (brefl wr) nq)
      have y3 := keep_below y3 (below_drewN (brefl wr) nq)
      have e0 : (wr.drewN nq).frozen? ⟨Q, 0, none⟩ = false := e0
      have e1 : (wr.drewN nq).frozen? ⟨Q, 1, none⟩ = false := e1
      have e2 : (wr.drewN nq).frozen? ⟨Q, 2, none⟩ = false := e2
      have e3 : (wr.drewN nq).frozen? ⟨Q, 3, none⟩ = false := e3
      have ckk := keep_below ckk (below_drewN (brefl wr) nq)
      have rb := rb.below (below_drewN (brefl wr) nq)
      have hbr := below_drewN hbr nq
      have hzQ : Q < (wr.drewN nq).heap.size := hzQ
      have hzp : p < (wr.drewN nq).heap.size := hz
      clear g hfb hf0 hf10 hmf hkk hfb9 ck hz pb t1
      generalize wr.drewN nq = W3 at *
      generalize c.fst k = F at *
      have i0 : (0 : Int) ≤ (k : Int) := by omega
      have i1 : (k : Int) < 11 := by omega
      have hw2 : IntKind.i64.wrap (r - F) = r - F := IntWalk.i64_in _ (by omega)
      obtain ⟨r0, r1, r2, r3, z0, z1, z2, z3⟩ := rb
      by_cases h9 : k = 9
      · subst h9
        have y1 : W3.cell? ⟨Q, 1, none⟩ = some (.int .i64 9) := y1
        have ckk : W3.cell? ⟨p, 33, none⟩ = some (.int .i64 F) := ckk
        have d5 : Int.tdiv (r - F) 5 = (r - F) / 5 := Int.tdiv_eq_ediv_of_nonneg hn0
        have d6 : Int.tmod (r - F) 5 = (r - F) % 5 := Int.tmod_eq_emod_of_nonneg hn0
        have hw3 : IntKind.i64.wrap ((r - F) / 5 + 1) = (r - F) / 5 + 1 := IntWalk.i64_in _ (by omega)
        have hw4 : IntKind.i64.wrap ((r - F) / 5) = (r - F) / 5 := IntWalk.i64_in _ (by omega)
        rw [if_pos rfl] at HW
        clear i0 i1
        go_wp2_with fail
        refine wp_tail 10 (by kernel_rfl) (by kernel_rfl) ?_
        simp only [List.take_succ_cons, List.take_zero, List.drop_succ_cons, List.drop_zero]
        repeat still_step
        refine wpStill_nil ?_
        go_wp2_with fail
        obtain ⟨W4, hW4, qb4, rb4, hb4⟩ : ∃ W4, (((W3.setCell ⟨Q, 2, none⟩ (.int .i64 (r - F))).setCell ⟨Q, 2, none⟩ (.int .i64 ((r - F) / 5))).setCell ⟨Q, 3, none⟩ (.int .i64 ((r - F) % 5))).drew = W4 ∧ XBox W4 Q q 9 ((r - F) / 5) ((r - F) % 5) ∧ XBox W4 w.heap.size 0 0 0 0 ∧ Below w.heap.size w W4 := ⟨_, rfl, ((((XBox.mk y0 y1 y2 y3 e0 e1 e2 e3).set2 _).set2 _).set3 _).below (brefl _).drew, ((((XBox.mk r0 r1 r2 r3 z0 z1 z2 z3).other (Ne.symm hRQ) _ _).other (Ne.symm hRQ) _ _).other (Ne.symm hRQ) _ _).below (brefl _).drew, (bset (p := ⟨Q, 3, none⟩) (bset (p := ⟨Q, 2, none⟩) (bset (p := ⟨Q, 2, none⟩) hbr hwQ _) hwQ _) hwQ _).drew⟩
        rw [hW4]
        clear hW4 y0 y1 y2 y3 e0 e1 e2 e3 r0 r1 r2 r3 z0 z1 z2 z3
        obtain ⟨y0, y1, y2, y3, e0, e1, e2, e3⟩ := qb4
        obtain ⟨r0, r1, r2, r3, z0, z1, z2, z3⟩ := rb4
        refine wp_tail 7 (by kernel_rfl) (by kernel_rfl) ?_
        simp only [List.take_succ_cons, List.take_zero, List.drop_succ_cons, List.drop_zero]
        repeat (first | still_step | still_call ((base_9 _).mono fun _ _ q => ⟨q.1, q.2.symm⟩))
        refine wpStill_nil ?_
        go_wp2
        refine bodyPost_ret (v := .tuple #[.agg #[.int .i64 q, .int .i64 9, .int .i64 ((r - F) / 5 + 1), .int .i64 ((r - F) % 5)], .bool true]) (by simp [results, Try.results38, go_sem, r0, r1, r2, r3]) rfl ⟨by rw [HW.out], ?_⟩
        repeat (first | refine Below.drew ?_ | refine bset ?_ (by first | exact hwQ | exact Nat.le_refl _) _)
        with_reducible exact hb4
      · have t9 : ((k : Int) == 9) = false := by simp; omega
        rw [if_neg h9] at HW
        have hba := base_any (k : Int)
        have hbb := base_bd (k : Int)
        generalize baseOf (k : Int) = B at *
        have hw3 : IntKind.i64.wrap (r - F + B) = r - F + B := IntWalk.i64_in _ (by omega)
        go_wp2_with fail
        refine wp_tail 10 (by kernel_rfl) (by kernel_rfl) ?_
        simp only [List.take_succ_cons, List.take_zero, List.drop_succ_cons, List.drop_zero]
        repeat still_step
        refine wpStill_nil ?_
        go_wp2_with fail
        obtain ⟨W4, hW4, qb4, rb4, hb4⟩ : ∃ W4, (W3.setCell ⟨Q, 2, none⟩ (.int .i64 (r - F))).drew = W4 ∧ XBox W4 Q q (k : Int) ((r - F)) (0) ∧ XBox W4 w.heap.size 0 0 0 0 ∧ Below w.heap.size w W4 := ⟨_, rfl, ((XBox.mk y0 y1 y2 y3 e0 e1 e2 e3).set2 _).below (brefl _).drew, ((XBox.mk r0 r1 r2 r3 z0 z1 z2 z3).other (Ne.symm hRQ) _ _).below (brefl _).drew, (bset (p := ⟨Q, 2, none⟩) hbr hwQ _).drew⟩
        rw [hW4]
        clear hW4 y0 y1 y2 y3 e0 e1 e2 e3 r0 r1 r2 r3 z0 z1 z2 z3
        obtain ⟨y0, y1, y2, y3, e0, e1, e2, e3⟩ := qb4
        obtain ⟨r0, r1, r2, r3, z0, z1, z2, z3⟩ := rb4
        refine wp_tail 7 (by kernel_rfl) (by kernel_rfl) ?_
        simp only [List.take_succ_cons, List.take_zero, List.drop_succ_cons, List.drop_zero]
        repeat (first | still_step | still_call ((hba _).mono fun _ _ q => ⟨q.1, q.2.symm⟩))
        refine wpStill_nil ?_
        go_wp2
        refine bodyPost_ret (v := .tuple #[.agg #[.int .i64 q, .int .i64 (k : Int), .int .i64 (r - F + B), .int .i64 (0)], .bool true]) (by simp [results, Try.results38, go_sem, r0, r1, r2, r3]) rfl ⟨by rw [HW.out], ?_⟩
        repeat (first | refine Below.drew ?_ | refine bset ?_ (by first | exact hwQ | exact Nat.le_refl _) _)
        with_reducible exact hb4
end Go.Proofs.Ytpnhpiniflcciaa
