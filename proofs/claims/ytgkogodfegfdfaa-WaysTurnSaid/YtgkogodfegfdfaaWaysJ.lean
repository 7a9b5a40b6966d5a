/- Sets of ways: lives, and the law WaysWords. -/
import Derived.Test.YtgkogodfegfdfaaWaysI
import Derived.Test.YtgkogodfegfdfaaArrEq
namespace Go.Proofs.Ytgkogodfegfdfaa
set_option linter.unusedVariables false
set_option linter.unusedSimpArgs false
open Go.RowKit

theorem size_rw (w : World) : (sizeOf 28).run Try.prog w = .ok 2 w := by rfl
theorem arrR (d : Nat) (xs ys : Array Value) (w : World) : (Op.equalIn (d + 1) 29 (.agg xs) (.agg ys)).run Try.prog w = (eqElems d 28 2 xs ys [0, 1, 2, 3]).run Try.prog w :=
  run_equalIn_array w d 29 28 4 2 xs ys Try.underlying29 size_rw
theorem eqR (S : WS) (w : World) : (binOp .eql 31 (.agg #[.int .i64 S.s0, .bool S.t0, .int .i64 S.s1, .bool S.t1, .int .i64 S.s2, .bool S.t2, .int .i64 S.s3, .bool S.t3, .int .i64 S.hd, .int .u64 S.tu]) (.agg #[.int .i64 S.s0, .bool S.t0, .int .i64 S.s1, .bool S.t1, .int .i64 S.s2, .bool S.t2, .int .i64 S.s3, .bool S.t3, .int .i64 S.hd, .int .u64 S.tu])).run Try.prog w = .ok (.bool true) w := by
  simp [go_sem, arrR, eqElems]
theorem neR (S : WS) (w : World) : (binOp .neq 31 (.agg #[.int .i64 S.s0, .bool S.t0, .int .i64 S.s1, .bool S.t1, .int .i64 S.s2, .bool S.t2, .int .i64 S.s3, .bool S.t3, .int .i64 S.hd, .int .u64 S.tu]) (.agg #[.int .i64 S.s0, .bool S.t0, .int .i64 S.s1, .bool S.t1, .int .i64 S.s2, .bool S.t2, .int .i64 S.s3, .bool S.t3, .int .i64 S.hd, .int .u64 S.tu])).run Try.prog w = .ok (.bool false) w := by
  simp [go_sem, arrR, eqElems]
theorem word_any (S : WS) (htu : U64 S.tu) (w : World) : Calls Try.prog 14 #[.agg #[.int .i64 S.s0, .bool S.t0, .int .i64 S.s1, .bool S.t1, .int .i64 S.s2, .bool S.t2, .int .i64 S.s3, .bool S.t3, .int .i64 S.hd, .int .u64 S.tu]] w fun e w' => e = .returned (.int .u64 ((wk S 4 : Nat) : Int)) ∧ Below w.heap.size w w' := by
  obtain ⟨s0, s1, s2, s3, t0, t1, t2, t3, hd, tu⟩ := S
  exact word_w s0 s1 s2 s3 t0 t1 t2 t3 hd tu htu w
theorem rword_any (S : WS) (htu : U64 S.tu) (w : World) : Calls Try.prog 15 #[.agg #[.int .i64 S.s0, .bool S.t0, .int .i64 S.s1, .bool S.t1, .int .i64 S.s2, .bool S.t2, .int .i64 S.s3, .bool S.t3, .int .i64 S.hd, .int .u64 S.tu]] w fun e w' => e = .returned (.int .u64 ((wk S 4 : Nat) : Int)) ∧ Below w.heap.size w w' := by
  rw [(wk_rk S 4 (by decide)).1]
  obtain ⟨s0, s1, s2, s3, t0, t1, t2, t3, hd, tu⟩ := S
  exact rword_w s0 s1 s2 s3 t0 t1 t2 t3 hd tu htu w
theorem up1_u (n : Int) : U64 (up1 n) := by unfold up1 U64; omega
theorem with_u {S : WS} (h : U64 S.tu) (i x : Int) (b : Bool) : U64 (S.with_ i x b).tu := by
  unfold WS.with_
  split
  · exact up1_u _
  · exact h
theorem turn_tu : ∀ (f : Nat) (S : WS), (turn f S).1.tu = S.tu
  | 0, S => rfl
  | f + 1, S => by
    unfold turn
    split
    · rw [turn_tu f]
      unfold WS.un
      split <;> rfl
    · rfl
theorem place_tu (S : WS) : S.place.1.tu = S.tu := by
  unfold WS.place
  repeat' split
  all_goals first
    | rfl
    | (rw [turn_tu]; unfold WS.norm; split <;> rfl)
theorem putS_u {S : WS} (h : U64 S.tu) (x : Int) : U64 (S.putS x).tu := with_u (by rw [place_tu]; exact h) _ _ _
theorem readS_u {n : Int} (h : U64 n) : U64 (readS n.toNat).tu := by
  have e : (readS n.toNat).tu = ((n.toNat / 274877906944 : Nat) : Int) := rfl
  have := h.1
  have := h.2
  rw [e]
  unfold U64
  omega
theorem u64_small {n : Nat} (h : n < 18446744073709551616) : Fld.u64 (n : Int) = n := Fld.u64_nat (by simpa using h)
/-- What was read is written. -/
theorem wk_readS {n : Nat} (h : n < 18446744073709551616) : wk (readS n) 4 = n := by
  rw [(wk_rk (readS n) 4 (by decide)).1]
  have e0 : ∀ k, rk (readS n) (k + 1) = rk (readS n) k + Fld.u64 ((readS n).sl k) % 256 * 2 ^ (9 * k) + (if (readS n).tc k = true then 2 ^ (9 * k + 8) else 0) := fun k => rfl
  have e1 : rk (readS n) 0 = n / 68719476736 % 4 % 4 * 68719476736 + n / 274877906944 % 67108864 * 274877906944 := by
    have a : Fld.u64 ((n / 68719476736 % 4 : Nat) : Int) = n / 68719476736 % 4 := u64_small (by omega)
    have b : ((n / 274877906944 : Nat) : Int).toNat = n / 274877906944 := Int.toNat_natCast _
    show Fld.u64 ((n / 68719476736 % 4 : Nat) : Int) % 4 * 68719476736 + ((n / 274877906944 : Nat) : Int).toNat % 67108864 * 274877906944 = _
    rw [a, b]
  have hs0 : Fld.u64 ((readS n).sl 0) = n % 256 := u64_small (by omega)
  have hs1 : Fld.u64 ((readS n).sl 1) = n / 512 % 256 := u64_small (by omega)
  have hs2 : Fld.u64 ((readS n).sl 2) = n / 262144 % 256 := u64_small (by omega)
  have hs3 : Fld.u64 ((readS n).sl 3) = n / 134217728 % 256 := u64_small (by omega)
  have ht : ∀ (x p : Nat), (if decide (256 ≤ x % 512) = true then p else 0) = (x / 256 % 2) * p := fun x p => by
    by_cases g : 256 ≤ x % 512
    · rw [if_pos (decide_eq_true g), show x / 256 % 2 = 1 by omega, Nat.one_mul]
    · rw [if_neg (by rw [decide_eq_false g]; decide), show x / 256 % 2 = 0 by omega, Nat.zero_mul]
  have h0 : (if (readS n).tc 0 = true then 2 ^ (9 * 0 + 8) else 0) = (n / 256 % 2) * 256 := ht n 256
  have h1 : (if (readS n).tc 1 = true then 2 ^ (9 * 1 + 8) else 0) = (n / 512 / 256 % 2) * 131072 := ht (n / 512) 131072
  have h2 : (if (readS n).tc 2 = true then 2 ^ (9 * 2 + 8) else 0) = (n / 262144 / 256 % 2) * 67108864 := ht (n / 262144) 67108864
  have h3 : (if (readS n).tc 3 = true then 2 ^ (9 * 3 + 8) else 0) = (n / 134217728 / 256 % 2) * 34359738368 := ht (n / 134217728) 34359738368
  have p0 : (2 : Nat) ^ (9 * 0) = 1 := by decide
  have p1 : (2 : Nat) ^ (9 * 1) = 512 := by decide
  have p2 : (2 : Nat) ^ (9 * 2) = 262144 := by decide
  have p3 : (2 : Nat) ^ (9 * 3) = 134217728 := by decide
  have q0 := e0 0
  have q1 := e0 1
  have q2 := e0 2
  have q3 := e0 3
  rw [hs0, h0, p0, e1] at q0
  rw [hs1, h1, p1] at q1
  rw [hs2, h2, p2] at q2
  rw [hs3, h3, p3] at q3
  clear e0 e1 hs0 hs1 hs2 hs3 ht h0 h1 h2 h3 p0 p1 p2 p3
  simp only [Nat.zero_add, Nat.reduceAdd] at q0 q1 q2 q3
  generalize rk (readS n) 1 = r1 at *
  generalize rk (readS n) 2 = r2 at *
  generalize rk (readS n) 3 = r3 at *
  generalize rk (readS n) 4 = r4 at *
  omega
def zS : WS := ⟨0, 0, 0, 0, false, false, false, false, 0, 0⟩
theorem lives_place : zS.place.2 = 0 := by decide
theorem lives_was : zS.was = 0 := by decide
theorem lives_word : wk (zS.putS 7) 4 = 274877907207 := by
  rw [(wk_rk _ 4 (by decide)).1]
  decide +kernel
set_option maxHeartbeats 8000000 in
set_option maxRecDepth 100000 in
theorem lives11 (w : World) : Calls Try.prog 13 #[] w fun e w' => e = .returned (.bool true) ∧ Below w.heap.size w w' := by
  have hp := put_any zS 7
  have hw := word_any (zS.putS 7) (putS_u (by unfold U64 zS; decide) 7)
  rw [lives_place, lives_was] at hp
  rw [lives_word] at hw
  generalize zS.putS 7 = T at *
  go_enter Try.func13, Try.ntmps13
  go_wp2_with fail
  refine (hp _).mono ?_
  rintro e w1 ⟨rfl, hb1⟩
  go_upto_region 2 with (fail)
  obtain ⟨W2, hW2, k0, k1, k2, k3, k4, k5, k6, k7, k8, k9, kb⟩ : ∃ W2, w1.alloc (.cells #[.int .i64 T.s0, .bool T.t0, .int .i64 T.s1, .bool T.t1, .int .i64 T.s2, .bool T.t2, .int .i64 T.s3, .bool T.t3, .int .i64 T.hd, .int .u64 T.tu] 27) = W2 ∧ W2.cell? ⟨w1.heap.size, 0, none⟩ = some (.int .i64 T.s0) ∧ W2.cell? ⟨w1.heap.size, 1, none⟩ = some (.bool T.t0) ∧ W2.cell? ⟨w1.heap.size, 2, none⟩ = some (.int .i64 T.s1) ∧ W2.cell? ⟨w1.heap.size, 3, none⟩ = some (.bool T.t1) ∧ W2.cell? ⟨w1.heap.size, 4, none⟩ = some (.int .i64 T.s2) ∧ W2.cell? ⟨w1.heap.size, 5, none⟩ = some (.bool T.t2) ∧ W2.cell? ⟨w1.heap.size, 6, none⟩ = some (.int .i64 T.s3) ∧ W2.cell? ⟨w1.heap.size, 7, none⟩ = some (.bool T.t3) ∧ W2.cell? ⟨w1.heap.size, 8, none⟩ = some (.int .i64 T.hd) ∧ W2.cell? ⟨w1.heap.size, 9, none⟩ = some (.int .u64 T.tu) ∧ Below w.heap.size w W2 :=
    ⟨_, rfl, by go_simp, by go_simp, by go_simp, by go_simp, by go_simp, by go_simp, by go_simp, by go_simp, by go_simp, by go_simp, bnew hb1 _⟩
  rw [hW2]
  clear hW2
  have hz := block_lt_of_cell k0
  go_wp2_with fail
  refine (hw _).mono ?_
  rintro e w3 ⟨rfl, hb3⟩
  go_wp2
  go_ret
  exact ⟨rfl, bnext kb hb3⟩

set_option maxHeartbeats 8000000 in
set_option maxRecDepth 100000 in
theorem words_w (S : WS) (htu : U64 S.tu) (n : Int) (hn : U64 n) (w : World) : Calls Try.prog 4 #[.agg #[.int .i64 S.s0, .bool S.t0, .int .i64 S.s1, .bool S.t1, .int .i64 S.s2, .bool S.t2, .int .i64 S.s3, .bool S.t3, .int .i64 S.hd, .int .u64 S.tu], .int .u64 n] w fun e w' => e = .returned (.bool true) ∧ Below w.heap.size w w' := by
  have c1 := word_any S htu
  have c2 := to_any S
  have c3 := rword_any S htu
  have c4 := read_w n hn
  have c5 := to_any (readS n.toNat)
  have c6 := rread_w n hn
  have c7 := word_any (readS n.toNat) (readS_u hn)
  rw [wk_readS (by have := hn.1; have := hn.2; omega), hn.cast] at c7
  have hq := eqR (readS n.toNat)
  generalize readS n.toNat = T at *
  have u1 : (n == n) = true := by simp
  have u2 : (((wk S 4 : Nat) : Int) == ((wk S 4 : Nat) : Int)) = true := by simp
  generalize ((wk S 4 : Nat) : Int) = V at *
  clear htu hn
  go_enter Try.func4, Try.ntmps4
  go_upto_region 1 with (fail)
  obtain ⟨W0, hW0, k0, k1, k2, k3, k4, k5, k6, k7, k8, k9, kb⟩ : ∃ W0, w.alloc (.cells #[.int .i64 S.s0, .bool S.t0, .int .i64 S.s1, .bool S.t1, .int .i64 S.s2, .bool S.t2, .int .i64 S.s3, .bool S.t3, .int .i64 S.hd, .int .u64 S.tu] 27) = W0 ∧ W0.cell? ⟨w.heap.size, 0, none⟩ = some (.int .i64 S.s0) ∧ W0.cell? ⟨w.heap.size, 1, none⟩ = some (.bool S.t0) ∧ W0.cell? ⟨w.heap.size, 2, none⟩ = some (.int .i64 S.s1) ∧ W0.cell? ⟨w.heap.size, 3, none⟩ = some (.bool S.t1) ∧ W0.cell? ⟨w.heap.size, 4, none⟩ = some (.int .i64 S.s2) ∧ W0.cell? ⟨w.heap.size, 5, none⟩ = some (.bool S.t2) ∧ W0.cell? ⟨w.heap.size, 6, none⟩ = some (.int .i64 S.s3) ∧ W0.cell? ⟨w.heap.size, 7, none⟩ = some (.bool S.t3) ∧ W0.cell? ⟨w.heap.size, 8, none⟩ = some (.int .i64 S.hd) ∧ W0.cell? ⟨w.heap.size, 9, none⟩ = some (.int .u64 S.tu) ∧ Below w.heap.size w W0 :=
    ⟨_, rfl, by go_simp, by go_simp, by go_simp, by go_simp, by go_simp, by go_simp, by go_simp, by go_simp, by go_simp, by go_simp, bnew (brefl w) _⟩
  rw [hW0]
  clear hW0
  have hX := @Ext.cell W0
  have hzz0 := block_lt_of_cell k0
  refine wp_region_noPanic ?_
  refine wp_region_plan (fun w' => ∃ x : Ext W0, w' = x.w) [([0, 2], 1), ([], 3), ([], 4), ([5, 6, 7, 10], 8), ([], 9), ([], 11), ([12, 13, 14, 15, 18], 16), ([], 17), ([19, 20, 21], 22)] [23, 24] (by kernel_rfl) (by kernel_rfl) (by kernel_rfl) (fun _ _ _ _ _ h => h) ⟨⟨_, (brefl W0).drew⟩, rfl⟩ ?_
  refine wpPlan_cons ?_
  simp only [pickOps, List.getElem?_cons_succ, List.getElem?_cons_zero, Option.elim_some]
  repeat (go_big_quiet_step (fail))
  refine wpQuiet_nil ?_
  refine planAct_some (fun K hK => ?_)
  go_simp
  refine (c1 _).mono ?_
  rintro e w1 ⟨rfl, h1⟩
  go_wp2_with fail
  refine hK.out _ _ ⟨⟨_, (bnext (brefl W0).drew h1)⟩, rfl⟩ ?_
  clear hK K
  refine wpPlan_cons ?_
  simp only [pickOps, List.getElem?_cons_succ, List.getElem?_cons_zero, Option.elim_some]
  repeat (go_big_quiet_step (fail))
  refine wpQuiet_nil ?_
  refine planAct_some (fun K hK => ?_)
  go_simp
  refine (c2 _).mono ?_
  rintro e w2 ⟨rfl, h2⟩
  go_wp2_with fail
  refine hK.out _ _ ⟨⟨_, (bnext (bnext (brefl W0).drew h1) h2)⟩, rfl⟩ ?_
  clear hK K
  refine wpPlan_cons ?_
  simp only [pickOps, List.getElem?_cons_succ, List.getElem?_cons_zero, Option.elim_some]
  repeat (go_big_quiet_step (fail))
  refine wpQuiet_nil ?_
  refine planAct_some (fun K hK => ?_)
  go_simp
  refine (c3 _).mono ?_
  rintro e w3 ⟨rfl, h3⟩
  go_wp2_with fail
  refine hK.out _ _ ⟨⟨_, (bnext (bnext (bnext (brefl W0).drew h1) h2) h3)⟩, rfl⟩ ?_
  clear hK K
  refine wpPlan_cons ?_
  simp only [pickOps, List.getElem?_cons_succ, List.getElem?_cons_zero, Option.elim_some]
  repeat (go_big_quiet_step (fail))
  refine wpQuiet_nil ?_
  refine planAct_some (fun K hK => ?_)
  go_simp
  refine (c4 _).mono ?_
  rintro e w4 ⟨rfl, h4⟩
  go_wp2_with fail
  refine hK.out _ _ ⟨⟨_, (bnext (bnext (bnext (bnext (brefl W0).drew h1) h2) h3) h4)⟩, rfl⟩ ?_
  clear hK K
  refine wpPlan_cons ?_
  simp only [pickOps, List.getElem?_cons_succ, List.getElem?_cons_zero, Option.elim_some]
  repeat (go_big_quiet_step (fail))
  refine wpQuiet_nil ?_
  refine planAct_some (fun K hK => ?_)
  go_simp
  refine (c5 _).mono ?_
  rintro e w5 ⟨rfl, h5⟩
  go_wp2_with fail
  refine hK.out _ _ ⟨⟨_, (bnext (bnext (bnext (bnext (bnext (brefl W0).drew h1) h2) h3) h4) h5)⟩, rfl⟩ ?_
  clear hK K
  refine wpPlan_cons ?_
  simp only [pickOps, List.getElem?_cons_succ, List.getElem?_cons_zero, Option.elim_some]
  repeat (go_big_quiet_step (fail))
  refine wpQuiet_nil ?_
  refine planAct_some (fun K hK => ?_)
  go_simp
  refine (c6 _).mono ?_
  rintro e w6 ⟨rfl, h6⟩
  go_wp2_with fail
  refine hK.out _ _ ⟨⟨_, (bnext (bnext (bnext (bnext (bnext (bnext (brefl W0).drew h1) h2) h3) h4) h5) h6)⟩, rfl⟩ ?_
  clear hK K
  refine wpPlan_cons ?_
  simp only [pickOps, List.getElem?_cons_succ, List.getElem?_cons_zero, Option.elim_some]
  repeat (go_big_quiet_step (fail))
  refine wpQuiet_nil ?_
  refine planAct_some (fun K hK => ?_)
  go_simp
  refine (c4 _).mono ?_
  rintro e w7 ⟨rfl, h7⟩
  go_wp2_with fail
  refine hK.out _ _ ⟨⟨_, (bnext (bnext (bnext (bnext (bnext (bnext (bnext (brefl W0).drew h1) h2) h3) h4) h5) h6) h7)⟩, rfl⟩ ?_
  clear hK K
  refine wpPlan_cons ?_
  simp only [pickOps, List.getElem?_cons_succ, List.getElem?_cons_zero, Option.elim_some]
  repeat (go_big_quiet_step (fail))
  refine wpQuiet_nil ?_
  refine planAct_some (fun K hK => ?_)
  go_simp
  refine (c7 _).mono ?_
  rintro e w8 ⟨rfl, h8⟩
  go_wp2_with fail
  refine hK.out _ _ ⟨⟨_, (bnext (bnext (bnext (bnext (bnext (bnext (bnext (bnext (brefl W0).drew h1) h2) h3) h4) h5) h6) h7) h8)⟩, rfl⟩ ?_
  clear hK K
  refine wpPlan_cons ?_
  simp only [pickOps, List.getElem?_cons_succ, List.getElem?_cons_zero, Option.elim_some]
  repeat (go_big_quiet_step (fail))
  refine wpQuiet_nil ?_
  refine planAct_some (fun K hK => ?_)
  go_simp
  refine (lives11 _).mono ?_
  rintro e w9 ⟨rfl, h9⟩
  go_wp2_with fail
  refine hK.out _ _ ⟨⟨_, (bnext (bnext (bnext (bnext (bnext (bnext (bnext (bnext (bnext (brefl W0).drew h1) h2) h3) h4) h5) h6) h7) h8) h9)⟩, rfl⟩ ?_
  clear hK K
  refine wpPlan_last ?_
  simp only [pickOps, List.getElem?_cons_succ, List.getElem?_cons_zero, Option.elim_some]
  repeat (go_big_quiet_step (fail))
  refine wpQuiet_nil ?_
  refine NoPanic.normal ?_
  clear hX hzz0
  go_wp2
  go_ret
  exact ⟨rfl, bnext kb (bnext (bnext (bnext (bnext (bnext (bnext (bnext (bnext (bnext (brefl W0).drew h1) h2) h3) h4) h5) h6) h7) h8) h9)⟩
end Go.Proofs.Ytgkogodfegfdfaa
