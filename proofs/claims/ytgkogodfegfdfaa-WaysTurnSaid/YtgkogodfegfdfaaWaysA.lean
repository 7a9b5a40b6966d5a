/- Sets of ways: with, Touch, Swap, Clear; the document's Set. -/
import Derived.Test.YtgkogodfegfdfaaPlanT
import Derived.Test.YtgkogodfegfdfaaProg
namespace Go.Proofs.Ytgkogodfegfdfaa
set_option linter.unusedVariables false
set_option linter.unusedSimpArgs false
open Go.RowKit

structure WS where
  (s0 s1 s2 s3 : Int)
  (t0 t1 t2 t3 : Bool)
  (hd tu : Int)
deriving DecidableEq
def WS.sl (S : WS) : Nat → Int
  | 0 => S.s0
  | 1 => S.s1
  | 2 => S.s2
  | _ => S.s3
def WS.tc (S : WS) : Nat → Bool
  | 0 => S.t0
  | 1 => S.t1
  | 2 => S.t2
  | _ => S.t3
def WS.put (S : WS) (k : Nat) (x : Int) (b : Bool) : WS :=
  match k with
  | 0 => { S with s0 := x, t0 := b }
  | 1 => { S with s1 := x, t1 := b }
  | 2 => { S with s2 := x, t2 := b }
  | _ => { S with s3 := x, t3 := b }
/-- One more turn. -/
def up1 (n : Int) : Int := (n + 1) % 18446744073709551616
def WS.with_ (S : WS) (i : Int) (x : Int) (b : Bool) : WS := if 0 ≤ i ∧ i < 4 then { S.put i.toNat x b with tu := up1 S.tu } else S
theorem with_in {S : WS} {k : Nat} (h : k < 4) (x : Int) (b : Bool) : S.with_ (k : Int) x b = { S.put k x b with tu := up1 S.tu } := by
  unfold WS.with_
  rw [if_pos (by omega), Int.toNat_natCast]
theorem with_out {S : WS} {i : Int} (h : i < 0 ∨ 4 ≤ i) (x : Int) (b : Bool) : S.with_ i x b = S := if_neg (by omega)
theorem up1_wrap (n : Int) : IntKind.u64.wrap (n + 1) = up1 n := by rw [IntKind.wrap_u64]; rfl

theorem there_yes {i : Int} (h0 : 0 ≤ i) (h1 : i < 4) (w : World) : Calls Try.prog 18 #[.int .i64 i] w fun e w' => e = .returned (.bool true) ∧ w = w' := by
  go_enter Try.func18, Try.ntmps18
  go_wp2
  go_ret
  exact ⟨rfl, rfl⟩
theorem there_no {i : Int} (h : i < 0 ∨ 4 ≤ i) (w : World) : Calls Try.prog 18 #[.int .i64 i] w fun e w' => e = .returned (.bool false) ∧ w = w' := by
  rcases h with h | h
  · have t : decide (0 ≤ i) = false := decide_eq_false (by omega)
    go_enter Try.func18, Try.ntmps18
    go_wp2
    go_ret
    exact ⟨rfl, rfl⟩
  · have t : decide (i < 4) = false := decide_eq_false (by omega)
    go_enter Try.func18, Try.ntmps18
    go_wp2
    go_ret
    exact ⟨rfl, rfl⟩
set_option maxHeartbeats 1000000 in
set_option maxRecDepth 100000 in
theorem with_0 (S : WS) (x : Int) (b : Bool) (w : World) : Calls Try.prog 19 #[.agg #[.int .i64 S.s0, .bool S.t0, .int .i64 S.s1, .bool S.t1, .int .i64 S.s2, .bool S.t2, .int .i64 S.s3, .bool S.t3, .int .i64 S.hd, .int .u64 S.tu], .int .i64 0, .agg #[.int .i64 x, .bool b]] w fun e w' => e = .returned (.agg #[.int .i64 x, .bool b, .int .i64 S.s1, .bool S.t1, .int .i64 S.s2, .bool S.t2, .int .i64 S.s3, .bool S.t3, .int .i64 S.hd, .int .u64 (up1 S.tu)]) ∧ Below w.heap.size w w' := by
  have hth := there_yes (i := 0) (by decide) (by decide)
  have hup := up1_wrap S.tu
  go_enter Try.func19, Try.ntmps19
  go_wp2_with (go_at_call 18; refine (hth _).mono ?_; rintro e w1 ⟨rfl, rfl⟩)
  refine bodyPost_ret (v := .agg #[.int .i64 x, .bool b, .int .i64 S.s1, .bool S.t1, .int .i64 S.s2, .bool S.t2, .int .i64 S.s3, .bool S.t3, .int .i64 S.hd, .int .u64 (up1 S.tu)]) (by simp [results, Try.results19, go_sem]) rfl ⟨rfl, ?_⟩
  repeat (first | (with_reducible exact brefl _) | (with_reducible refine bnew ?_ _) | (with_reducible refine bset ?_ (by simp <;> omega) _) | (with_reducible refine Below.drew ?_))
set_option maxHeartbeats 1000000 in
set_option maxRecDepth 100000 in
theorem with_1 (S : WS) (x : Int) (b : Bool) (w : World) : Calls Try.prog 19 #[.agg #[.int .i64 S.s0, .bool S.t0, .int .i64 S.s1, .bool S.t1, .int .i64 S.s2, .bool S.t2, .int .i64 S.s3, .bool S.t3, .int .i64 S.hd, .int .u64 S.tu], .int .i64 1, .agg #[.int .i64 x, .bool b]] w fun e w' => e = .returned (.agg #[.int .i64 S.s0, .bool S.t0, .int .i64 x, .bool b, .int .i64 S.s2, .bool S.t2, .int .i64 S.s3, .bool S.t3, .int .i64 S.hd, .int .u64 (up1 S.tu)]) ∧ Below w.heap.size w w' := by
  have hth := there_yes (i := 1) (by decide) (by decide)
  have hup := up1_wrap S.tu
  go_enter Try.func19, Try.ntmps19
  go_wp2_with (go_at_call 18; refine (hth _).mono ?_; rintro e w1 ⟨rfl, rfl⟩)
  refine bodyPost_ret (v := .agg #[.int .i64 S.s0, .bool S.t0, .int .i64 x, .bool b, .int .i64 S.s2, .bool S.t2, .int .i64 S.s3, .bool S.t3, .int .i64 S.hd, .int .u64 (up1 S.tu)]) (by simp [results, Try.results19, go_sem]) rfl ⟨rfl, ?_⟩
  repeat (first | (with_reducible exact brefl _) | (with_reducible refine bnew ?_ _) | (with_reducible refine bset ?_ (by simp <;> omega) _) | (with_reducible refine Below.drew ?_))
set_option maxHeartbeats 1000000 in
set_option maxRecDepth 100000 in
theorem with_2 (S : WS) (x : Int) (b : Bool) (w : World) : Calls Try.prog 19 #[.agg #[.int .i64 S.s0, .bool S.t0, .int .i64 S.s1, .bool S.t1, .int .i64 S.s2, .bool S.t2, .int .i64 S.s3, .bool S.t3, .int .i64 S.hd, .int .u64 S.tu], .int .i64 2, .agg #[.int .i64 x, .bool b]] w fun e w' => e = .returned (.agg #[.int .i64 S.s0, .bool S.t0, .int .i64 S.s1, .bool S.t1, .int .i64 x, .bool b, .int .i64 S.s3, .bool S.t3, .int .i64 S.hd, .int .u64 (up1 S.tu)]) ∧ Below w.heap.size w w' := by
  have hth := there_yes (i := 2) (by decide) (by decide)
  have hup := up1_wrap S.tu
  go_enter Try.func19, Try.ntmps19
  go_wp2_with (go_at_call 18; refine (hth _).mono ?_; rintro e w1 ⟨rfl, rfl⟩)
  refine bodyPost_ret (v := .agg #[.int .i64 S.s0, .bool S.t0, .int .i64 S.s1, .bool S.t1, .int .i64 x, .bool b, .int .i64 S.s3, .bool S.t3, .int .i64 S.hd, .int .u64 (up1 S.tu)]) (by simp [results, Try.results19, go_sem]) rfl ⟨rfl, ?_⟩
  repeat (first | (with_reducible exact brefl _) | (with_reducible refine bnew ?_ _) | (with_reducible refine bset ?_ (by simp <;> omega) _) | (with_reducible refine Below.drew ?_))
set_option maxHeartbeats 1000000 in
set_option maxRecDepth 100000 in
theorem with_3 (S : WS) (x : Int) (b : Bool) (w : World) : Calls Try.prog 19 #[.agg #[.int .i64 S.s0, .bool S.t0, .int .i64 S.s1, .bool S.t1, .int .i64 S.s2, .bool S.t2, .int .i64 S.s3, .bool S.t3, .int .i64 S.hd, .int .u64 S.tu], .int .i64 3, .agg #[.int .i64 x, .bool b]] w fun e w' => e = .returned (.agg #[.int .i64 S.s0, .bool S.t0, .int .i64 S.s1, .bool S.t1, .int .i64 S.s2, .bool S.t2, .int .i64 x, .bool b, .int .i64 S.hd, .int .u64 (up1 S.tu)]) ∧ Below w.heap.size w w' := by
  have hth := there_yes (i := 3) (by decide) (by decide)
  have hup := up1_wrap S.tu
  go_enter Try.func19, Try.ntmps19
  go_wp2_with (go_at_call 18; refine (hth _).mono ?_; rintro e w1 ⟨rfl, rfl⟩)
  refine bodyPost_ret (v := .agg #[.int .i64 S.s0, .bool S.t0, .int .i64 S.s1, .bool S.t1, .int .i64 S.s2, .bool S.t2, .int .i64 x, .bool b, .int .i64 S.hd, .int .u64 (up1 S.tu)]) (by simp [results, Try.results19, go_sem]) rfl ⟨rfl, ?_⟩
  repeat (first | (with_reducible exact brefl _) | (with_reducible refine bnew ?_ _) | (with_reducible refine bset ?_ (by simp <;> omega) _) | (with_reducible refine Below.drew ?_))
set_option maxHeartbeats 1000000 in
set_option maxRecDepth 100000 in
theorem with_no (S : WS) {i : Int} (h : i < 0 ∨ 4 ≤ i) (x : Int) (b : Bool) (w : World) : Calls Try.prog 19 #[.agg #[.int .i64 S.s0, .bool S.t0, .int .i64 S.s1, .bool S.t1, .int .i64 S.s2, .bool S.t2, .int .i64 S.s3, .bool S.t3, .int .i64 S.hd, .int .u64 S.tu], .int .i64 i, .agg #[.int .i64 x, .bool b]] w fun e w' => e = .returned (.agg #[.int .i64 S.s0, .bool S.t0, .int .i64 S.s1, .bool S.t1, .int .i64 S.s2, .bool S.t2, .int .i64 S.s3, .bool S.t3, .int .i64 S.hd, .int .u64 S.tu]) ∧ Below w.heap.size w w' := by
  have hth := there_no h
  have hup := up1_wrap S.tu
  go_enter Try.func19, Try.ntmps19
  go_wp2_with (go_at_call 18; refine (hth _).mono ?_; rintro e w1 ⟨rfl, rfl⟩)
  refine bodyPost_ret (v := .agg #[.int .i64 S.s0, .bool S.t0, .int .i64 S.s1, .bool S.t1, .int .i64 S.s2, .bool S.t2, .int .i64 S.s3, .bool S.t3, .int .i64 S.hd, .int .u64 S.tu]) (by simp [results, Try.results19, go_sem]) rfl ⟨rfl, ?_⟩
  repeat (first | (with_reducible exact brefl _) | (with_reducible refine bnew ?_ _) | (with_reducible refine bset ?_ (by simp <;> omega) _) | (with_reducible refine Below.drew ?_))
theorem with_any (S : WS) (i x : Int) (b : Bool) (w : World) : Calls Try.prog 19 #[.agg #[.int .i64 S.s0, .bool S.t0, .int .i64 S.s1, .bool S.t1, .int .i64 S.s2, .bool S.t2, .int .i64 S.s3, .bool S.t3, .int .i64 S.hd, .int .u64 S.tu], .int .i64 i, .agg #[.int .i64 x, .bool b]] w fun e w' => e = .returned (.agg #[.int .i64 (S.with_ i x b).s0, .bool (S.with_ i x b).t0, .int .i64 (S.with_ i x b).s1, .bool (S.with_ i x b).t1, .int .i64 (S.with_ i x b).s2, .bool (S.with_ i x b).t2, .int .i64 (S.with_ i x b).s3, .bool (S.with_ i x b).t3, .int .i64 (S.with_ i x b).hd, .int .u64 (S.with_ i x b).tu]) ∧ Below w.heap.size w w' := by
  by_cases h : 0 ≤ i ∧ i < 4
  · rcases (by omega : i = 0 ∨ i = 1 ∨ i = 2 ∨ i = 3) with rfl | rfl | rfl | rfl
    · exact with_0 S x b w
    · exact with_1 S x b w
    · exact with_2 S x b w
    · exact with_3 S x b w
  · rw [with_out (by omega)]
    exact with_no S (by omega) x b w
set_option maxHeartbeats 1000000 in
set_option maxRecDepth 100000 in
theorem rset_0 (S : WS) (x : Int) (b : Bool) (w : World) : Calls Try.prog 7 #[.agg #[.int .i64 S.s0, .bool S.t0, .int .i64 S.s1, .bool S.t1, .int .i64 S.s2, .bool S.t2, .int .i64 S.s3, .bool S.t3, .int .i64 S.hd, .int .u64 S.tu], .int .i64 0, .agg #[.int .i64 x, .bool b]] w fun e w' => e = .returned (.agg #[.int .i64 x, .bool b, .int .i64 S.s1, .bool S.t1, .int .i64 S.s2, .bool S.t2, .int .i64 S.s3, .bool S.t3, .int .i64 S.hd, .int .u64 (up1 S.tu)]) ∧ Below w.heap.size w w' := by
  have hup := up1_wrap S.tu
  go_enter Try.func7, Try.ntmps7
  go_wp2
  refine bodyPost_ret (v := .agg #[.int .i64 x, .bool b, .int .i64 S.s1, .bool S.t1, .int .i64 S.s2, .bool S.t2, .int .i64 S.s3, .bool S.t3, .int .i64 S.hd, .int .u64 (up1 S.tu)]) (by simp [results, Try.results7, go_sem]) rfl ⟨rfl, ?_⟩
  repeat (first | (with_reducible exact brefl _) | (with_reducible refine bnew ?_ _) | (with_reducible refine bset ?_ (by simp <;> omega) _) | (with_reducible refine Below.drew ?_))
set_option maxHeartbeats 1000000 in
set_option maxRecDepth 100000 in
theorem rset_1 (S : WS) (x : Int) (b : Bool) (w : World) : Calls Try.prog 7 #[.agg #[.int .i64 S.s0, .bool S.t0, .int .i64 S.s1, .bool S.t1, .int .i64 S.s2, .bool S.t2, .int .i64 S.s3, .bool S.t3, .int .i64 S.hd, .int .u64 S.tu], .int .i64 1, .agg #[.int .i64 x, .bool b]] w fun e w' => e = .returned (.agg #[.int .i64 S.s0, .bool S.t0, .int .i64 x, .bool b, .int .i64 S.s2, .bool S.t2, .int .i64 S.s3, .bool S.t3, .int .i64 S.hd, .int .u64 (up1 S.tu)]) ∧ Below w.heap.size w w' := by
  have hup := up1_wrap S.tu
  go_enter Try.func7, Try.ntmps7
  go_wp2
  refine bodyPost_ret (v := .agg #[.int .i64 S.s0, .bool S.t0, .int .i64 x, .bool b, .int .i64 S.s2, .bool S.t2, .int .i64 S.s3, .bool S.t3, .int .i64 S.hd, .int .u64 (up1 S.tu)]) (by simp [results, Try.results7, go_sem]) rfl ⟨rfl, ?_⟩
  repeat (first | (with_reducible exact brefl _) | (with_reducible refine bnew ?_ _) | (with_reducible refine bset ?_ (by simp <;> omega) _) | (with_reducible refine Below.drew ?_))
set_option maxHeartbeats 1000000 in
set_option maxRecDepth 100000 in
theorem rset_2 (S : WS) (x : Int) (b : Bool) (w : World) : Calls Try.prog 7 #[.agg #[.int .i64 S.s0, .bool S.t0, .int .i64 S.s1, .bool S.t1, .int .i64 S.s2, .bool S.t2, .int .i64 S.s3, .bool S.t3, .int .i64 S.hd, .int .u64 S.tu], .int .i64 2, .agg #[.int .i64 x, .bool b]] w fun e w' => e = .returned (.agg #[.int .i64 S.s0, .bool S.t0, .int .i64 S.s1, .bool S.t1, .int .i64 x, .bool b, .int .i64 S.s3, .bool S.t3, .int .i64 S.hd, .int .u64 (up1 S.tu)]) ∧ Below w.heap.size w w' := by
  have hup := up1_wrap S.tu
  go_enter Try.func7, Try.ntmps7
  go_wp2
  refine bodyPost_ret (v := .agg #[.int .i64 S.s0, .bool S.t0, .int .i64 S.s1, .bool S.t1, .int .i64 x, .bool b, .int .i64 S.s3, .bool S.t3, .int .i64 S.hd, .int .u64 (up1 S.tu)]) (by simp [results, Try.results7, go_sem]) rfl ⟨rfl, ?_⟩
  repeat (first | (with_reducible exact brefl _) | (with_reducible refine bnew ?_ _) | (with_reducible refine bset ?_ (by simp <;> omega) _) | (with_reducible refine Below.drew ?_))
set_option maxHeartbeats 1000000 in
set_option maxRecDepth 100000 in
theorem rset_3 (S : WS) (x : Int) (b : Bool) (w : World) : Calls Try.prog 7 #[.agg #[.int .i64 S.s0, .bool S.t0, .int .i64 S.s1, .bool S.t1, .int .i64 S.s2, .bool S.t2, .int .i64 S.s3, .bool S.t3, .int .i64 S.hd, .int .u64 S.tu], .int .i64 3, .agg #[.int .i64 x, .bool b]] w fun e w' => e = .returned (.agg #[.int .i64 S.s0, .bool S.t0, .int .i64 S.s1, .bool S.t1, .int .i64 S.s2, .bool S.t2, .int .i64 x, .bool b, .int .i64 S.hd, .int .u64 (up1 S.tu)]) ∧ Below w.heap.size w w' := by
  have hup := up1_wrap S.tu
  go_enter Try.func7, Try.ntmps7
  go_wp2
  refine bodyPost_ret (v := .agg #[.int .i64 S.s0, .bool S.t0, .int .i64 S.s1, .bool S.t1, .int .i64 S.s2, .bool S.t2, .int .i64 x, .bool b, .int .i64 S.hd, .int .u64 (up1 S.tu)]) (by simp [results, Try.results7, go_sem]) rfl ⟨rfl, ?_⟩
  repeat (first | (with_reducible exact brefl _) | (with_reducible refine bnew ?_ _) | (with_reducible refine bset ?_ (by simp <;> omega) _) | (with_reducible refine Below.drew ?_))
set_option maxHeartbeats 1000000 in
set_option maxRecDepth 100000 in
theorem rset_neg (S : WS) {i : Int} (h : i < 0) (x : Int) (b : Bool) (w : World) : Calls Try.prog 7 #[.agg #[.int .i64 S.s0, .bool S.t0, .int .i64 S.s1, .bool S.t1, .int .i64 S.s2, .bool S.t2, .int .i64 S.s3, .bool S.t3, .int .i64 S.hd, .int .u64 S.tu], .int .i64 i, .agg #[.int .i64 x, .bool b]] w fun e w' => e = .returned (.agg #[.int .i64 S.s0, .bool S.t0, .int .i64 S.s1, .bool S.t1, .int .i64 S.s2, .bool S.t2, .int .i64 S.s3, .bool S.t3, .int .i64 S.hd, .int .u64 S.tu]) ∧ Below w.heap.size w w' := by
  have hup := up1_wrap S.tu
  go_enter Try.func7, Try.ntmps7
  go_wp2
  refine bodyPost_ret (v := .agg #[.int .i64 S.s0, .bool S.t0, .int .i64 S.s1, .bool S.t1, .int .i64 S.s2, .bool S.t2, .int .i64 S.s3, .bool S.t3, .int .i64 S.hd, .int .u64 S.tu]) (by simp [results, Try.results7, go_sem]) rfl ⟨rfl, ?_⟩
  repeat (first | (with_reducible exact brefl _) | (with_reducible refine bnew ?_ _) | (with_reducible refine bset ?_ (by simp <;> omega) _) | (with_reducible refine Below.drew ?_))
set_option maxHeartbeats 1000000 in
set_option maxRecDepth 100000 in
theorem rset_big (S : WS) {i : Int} (h : 4 ≤ i) (x : Int) (b : Bool) (w : World) : Calls Try.prog 7 #[.agg #[.int .i64 S.s0, .bool S.t0, .int .i64 S.s1, .bool S.t1, .int .i64 S.s2, .bool S.t2, .int .i64 S.s3, .bool S.t3, .int .i64 S.hd, .int .u64 S.tu], .int .i64 i, .agg #[.int .i64 x, .bool b]] w fun e w' => e = .returned (.agg #[.int .i64 S.s0, .bool S.t0, .int .i64 S.s1, .bool S.t1, .int .i64 S.s2, .bool S.t2, .int .i64 S.s3, .bool S.t3, .int .i64 S.hd, .int .u64 S.tu]) ∧ Below w.heap.size w w' := by
  have t1 : decide (i < 0) = false := decide_eq_false (by omega)
  have t2 : (3 : Int) < i := by omega
  have hup := up1_wrap S.tu
  go_enter Try.func7, Try.ntmps7
  go_wp2
  refine bodyPost_ret (v := .agg #[.int .i64 S.s0, .bool S.t0, .int .i64 S.s1, .bool S.t1, .int .i64 S.s2, .bool S.t2, .int .i64 S.s3, .bool S.t3, .int .i64 S.hd, .int .u64 S.tu]) (by simp [results, Try.results7, go_sem]) rfl ⟨rfl, ?_⟩
  repeat (first | (with_reducible exact brefl _) | (with_reducible refine bnew ?_ _) | (with_reducible refine bset ?_ (by simp <;> omega) _) | (with_reducible refine Below.drew ?_))
theorem rset_any (S : WS) (i x : Int) (b : Bool) (w : World) : Calls Try.prog 7 #[.agg #[.int .i64 S.s0, .bool S.t0, .int .i64 S.s1, .bool S.t1, .int .i64 S.s2, .bool S.t2, .int .i64 S.s3, .bool S.t3, .int .i64 S.hd, .int .u64 S.tu], .int .i64 i, .agg #[.int .i64 x, .bool b]] w fun e w' => e = .returned (.agg #[.int .i64 (S.with_ i x b).s0, .bool (S.with_ i x b).t0, .int .i64 (S.with_ i x b).s1, .bool (S.with_ i x b).t1, .int .i64 (S.with_ i x b).s2, .bool (S.with_ i x b).t2, .int .i64 (S.with_ i x b).s3, .bool (S.with_ i x b).t3, .int .i64 (S.with_ i x b).hd, .int .u64 (S.with_ i x b).tu]) ∧ Below w.heap.size w w' := by
  by_cases h : 0 ≤ i ∧ i < 4
  · rcases (by omega : i = 0 ∨ i = 1 ∨ i = 2 ∨ i = 3) with rfl | rfl | rfl | rfl
    · exact rset_0 S x b w
    · exact rset_1 S x b w
    · exact rset_2 S x b w
    · exact rset_3 S x b w
  · rw [with_out (by omega)]
    rcases (by omega : i < 0 ∨ 4 ≤ i) with h | h
    · exact rset_neg S h x b w
    · exact rset_big S h x b w
end Go.Proofs.Ytgkogodfegfdfaa
