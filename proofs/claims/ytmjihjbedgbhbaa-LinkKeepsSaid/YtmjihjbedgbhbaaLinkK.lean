/- The law LinkKeeps, walked. -/
import Derived.Test.YtmjihjbedgbhbaaLinkB
namespace Go.Proofs.Ytmjihjbedgbhbaa
set_option linter.unusedVariables false
set_option linter.unusedSimpArgs false
open Go.RowKit

set_option maxHeartbeats 2000000 in
set_option maxRecDepth 100000 in
theorem keeps02_0 {n s g K X : Int}
    (cm : ∀ w : World, Calls Try.prog 37 #[.int .u64 n] w fun e w' => e = .returned (.int .u64 K) ∧ w = w')
    (cs1 : ∀ w : World, Calls Try.prog 39 #[.int .u64 K, .int .u64 n] w fun e w' => e = .returned (.bool true) ∧ w = w')
    (ck : ∀ w : World, Calls Try.prog 36 #[.int .u64 K] w fun e w' => e = .returned (.bool true) ∧ w = w')
    (cp : ∀ w : World, Calls Try.prog 38 #[.int .u64 n] w fun e w' => e = .returned (.int .u64 X) ∧ w = w')
    (cmx : ∀ w : World, Calls Try.prog 36 #[.int .u64 X] w fun e w' => e = .returned (.bool false) ∧ w = w')
    (csx : ∀ w : World, Calls Try.prog 39 #[.int .u64 X, .int .u64 n] w fun e w' => e = .returned (.bool true) ∧ w = w')
    (cpx : ∀ w : World, Calls Try.prog 38 #[.int .u64 X] w fun e w' => e = .returned (.int .u64 X) ∧ w = w')
    (cl : ∀ w : World, Calls Try.prog 18 #[] w fun e w' => e = .returned (.bool true) ∧ w = w')
    (h1 : s < 0) (w : World) :
    Calls Try.prog 8 #[.int .u64 n, .int .i64 s, .int .i64 g] w fun e w' => e = .returned (.bool true) ∧ w = w' := by
  go_enter Try.func8, Try.ntmps8
  go_wp2_with (first | (go_at_call 37; refine (cm _).mono ?_; rintro e w' ⟨rfl, rfl⟩) | (go_at_call 39; refine (cs1 _).mono ?_; rintro e w' ⟨rfl, rfl⟩) | (go_at_call 36; refine (ck _).mono ?_; rintro e w' ⟨rfl, rfl⟩) | (go_at_call 38; refine (cp _).mono ?_; rintro e w' ⟨rfl, rfl⟩) | (go_at_call 36; refine (cmx _).mono ?_; rintro e w' ⟨rfl, rfl⟩) | (go_at_call 39; refine (csx _).mono ?_; rintro e w' ⟨rfl, rfl⟩) | (go_at_call 38; refine (cpx _).mono ?_; rintro e w' ⟨rfl, rfl⟩) | (go_at_call 18; refine (cl _).mono ?_; rintro e w' ⟨rfl, rfl⟩))
  go_ret
  exact ⟨rfl, rfl⟩

set_option maxHeartbeats 2000000 in
set_option maxRecDepth 100000 in
theorem keeps02_1 {n s g K X : Int}
    (cm : ∀ w : World, Calls Try.prog 37 #[.int .u64 n] w fun e w' => e = .returned (.int .u64 K) ∧ w = w')
    (cs1 : ∀ w : World, Calls Try.prog 39 #[.int .u64 K, .int .u64 n] w fun e w' => e = .returned (.bool true) ∧ w = w')
    (ck : ∀ w : World, Calls Try.prog 36 #[.int .u64 K] w fun e w' => e = .returned (.bool true) ∧ w = w')
    (cp : ∀ w : World, Calls Try.prog 38 #[.int .u64 n] w fun e w' => e = .returned (.int .u64 X) ∧ w = w')
    (cmx : ∀ w : World, Calls Try.prog 36 #[.int .u64 X] w fun e w' => e = .returned (.bool false) ∧ w = w')
    (csx : ∀ w : World, Calls Try.prog 39 #[.int .u64 X, .int .u64 n] w fun e w' => e = .returned (.bool true) ∧ w = w')
    (cpx : ∀ w : World, Calls Try.prog 38 #[.int .u64 X] w fun e w' => e = .returned (.int .u64 X) ∧ w = w')
    (cl : ∀ w : World, Calls Try.prog 18 #[] w fun e w' => e = .returned (.bool true) ∧ w = w')
    (h1 : ¬ s < 0) (h2 : 255 < s) (w : World) :
    Calls Try.prog 8 #[.int .u64 n, .int .i64 s, .int .i64 g] w fun e w' => e = .returned (.bool true) ∧ w = w' := by
  go_enter Try.func8, Try.ntmps8
  go_wp2_with (first | (go_at_call 37; refine (cm _).mono ?_; rintro e w' ⟨rfl, rfl⟩) | (go_at_call 39; refine (cs1 _).mono ?_; rintro e w' ⟨rfl, rfl⟩) | (go_at_call 36; refine (ck _).mono ?_; rintro e w' ⟨rfl, rfl⟩) | (go_at_call 38; refine (cp _).mono ?_; rintro e w' ⟨rfl, rfl⟩) | (go_at_call 36; refine (cmx _).mono ?_; rintro e w' ⟨rfl, rfl⟩) | (go_at_call 39; refine (csx _).mono ?_; rintro e w' ⟨rfl, rfl⟩) | (go_at_call 38; refine (cpx _).mono ?_; rintro e w' ⟨rfl, rfl⟩) | (go_at_call 18; refine (cl _).mono ?_; rintro e w' ⟨rfl, rfl⟩))
  go_ret
  exact ⟨rfl, rfl⟩

set_option maxHeartbeats 2000000 in
set_option maxRecDepth 100000 in
theorem keeps02_2 {n s g K X : Int}
    (cm : ∀ w : World, Calls Try.prog 37 #[.int .u64 n] w fun e w' => e = .returned (.int .u64 K) ∧ w = w')
    (cs1 : ∀ w : World, Calls Try.prog 39 #[.int .u64 K, .int .u64 n] w fun e w' => e = .returned (.bool true) ∧ w = w')
    (ck : ∀ w : World, Calls Try.prog 36 #[.int .u64 K] w fun e w' => e = .returned (.bool true) ∧ w = w')
    (cp : ∀ w : World, Calls Try.prog 38 #[.int .u64 n] w fun e w' => e = .returned (.int .u64 X) ∧ w = w')
    (cmx : ∀ w : World, Calls Try.prog 36 #[.int .u64 X] w fun e w' => e = .returned (.bool false) ∧ w = w')
    (csx : ∀ w : World, Calls Try.prog 39 #[.int .u64 X, .int .u64 n] w fun e w' => e = .returned (.bool true) ∧ w = w')
    (cpx : ∀ w : World, Calls Try.prog 38 #[.int .u64 X] w fun e w' => e = .returned (.int .u64 X) ∧ w = w')
    (cl : ∀ w : World, Calls Try.prog 18 #[] w fun e w' => e = .returned (.bool true) ∧ w = w')
    (h1 : ¬ s < 0) (h2 : ¬ 255 < s) (h3 : g < 0) (w : World) :
    Calls Try.prog 8 #[.int .u64 n, .int .i64 s, .int .i64 g] w fun e w' => e = .returned (.bool true) ∧ w = w' := by
  go_enter Try.func8, Try.ntmps8
  go_wp2_with (first | (go_at_call 37; refine (cm _).mono ?_; rintro e w' ⟨rfl, rfl⟩) | (go_at_call 39; refine (cs1 _).mono ?_; rintro e w' ⟨rfl, rfl⟩) | (go_at_call 36; refine (ck _).mono ?_; rintro e w' ⟨rfl, rfl⟩) | (go_at_call 38; refine (cp _).mono ?_; rintro e w' ⟨rfl, rfl⟩) | (go_at_call 36; refine (cmx _).mono ?_; rintro e w' ⟨rfl, rfl⟩) | (go_at_call 39; refine (csx _).mono ?_; rintro e w' ⟨rfl, rfl⟩) | (go_at_call 38; refine (cpx _).mono ?_; rintro e w' ⟨rfl, rfl⟩) | (go_at_call 18; refine (cl _).mono ?_; rintro e w' ⟨rfl, rfl⟩))
  go_ret
  exact ⟨rfl, rfl⟩

set_option maxHeartbeats 2000000 in
set_option maxRecDepth 100000 in
theorem keeps02_3 {n s g K X : Int}
    (cm : ∀ w : World, Calls Try.prog 37 #[.int .u64 n] w fun e w' => e = .returned (.int .u64 K) ∧ w = w')
    (cs1 : ∀ w : World, Calls Try.prog 39 #[.int .u64 K, .int .u64 n] w fun e w' => e = .returned (.bool true) ∧ w = w')
    (ck : ∀ w : World, Calls Try.prog 36 #[.int .u64 K] w fun e w' => e = .returned (.bool true) ∧ w = w')
    (cp : ∀ w : World, Calls Try.prog 38 #[.int .u64 n] w fun e w' => e = .returned (.int .u64 X) ∧ w = w')
    (cmx : ∀ w : World, Calls Try.prog 36 #[.int .u64 X] w fun e w' => e = .returned (.bool false) ∧ w = w')
    (csx : ∀ w : World, Calls Try.prog 39 #[.int .u64 X, .int .u64 n] w fun e w' => e = .returned (.bool true) ∧ w = w')
    (cpx : ∀ w : World, Calls Try.prog 38 #[.int .u64 X] w fun e w' => e = .returned (.int .u64 X) ∧ w = w')
    (cl : ∀ w : World, Calls Try.prog 18 #[] w fun e w' => e = .returned (.bool true) ∧ w = w')
    (h1 : ¬ s < 0) (h2 : ¬ 255 < s) (h3 : ¬ g < 0) (h4 : 4294967295 < g) (w : World) :
    Calls Try.prog 8 #[.int .u64 n, .int .i64 s, .int .i64 g] w fun e w' => e = .returned (.bool true) ∧ w = w' := by
  go_enter Try.func8, Try.ntmps8
  go_wp2_with (first | (go_at_call 37; refine (cm _).mono ?_; rintro e w' ⟨rfl, rfl⟩) | (go_at_call 39; refine (cs1 _).mono ?_; rintro e w' ⟨rfl, rfl⟩) | (go_at_call 36; refine (ck _).mono ?_; rintro e w' ⟨rfl, rfl⟩) | (go_at_call 38; refine (cp _).mono ?_; rintro e w' ⟨rfl, rfl⟩) | (go_at_call 36; refine (cmx _).mono ?_; rintro e w' ⟨rfl, rfl⟩) | (go_at_call 39; refine (csx _).mono ?_; rintro e w' ⟨rfl, rfl⟩) | (go_at_call 38; refine (cpx _).mono ?_; rintro e w' ⟨rfl, rfl⟩) | (go_at_call 18; refine (cl _).mono ?_; rintro e w' ⟨rfl, rfl⟩))
  go_ret
  exact ⟨rfl, rfl⟩

set_option maxHeartbeats 2000000 in
set_option maxRecDepth 100000 in
theorem keeps02_4 {n s g K X Y T T' : Int}
    (cm : ∀ w : World, Calls Try.prog 37 #[.int .u64 n] w fun e w' => e = .returned (.int .u64 K) ∧ w = w')
    (cs1 : ∀ w : World, Calls Try.prog 39 #[.int .u64 K, .int .u64 n] w fun e w' => e = .returned (.bool true) ∧ w = w')
    (ck : ∀ w : World, Calls Try.prog 36 #[.int .u64 K] w fun e w' => e = .returned (.bool true) ∧ w = w')
    (cp : ∀ w : World, Calls Try.prog 38 #[.int .u64 n] w fun e w' => e = .returned (.int .u64 X) ∧ w = w')
    (cmx : ∀ w : World, Calls Try.prog 36 #[.int .u64 X] w fun e w' => e = .returned (.bool false) ∧ w = w')
    (csx : ∀ w : World, Calls Try.prog 39 #[.int .u64 X, .int .u64 n] w fun e w' => e = .returned (.bool true) ∧ w = w')
    (cpx : ∀ w : World, Calls Try.prog 38 #[.int .u64 X] w fun e w' => e = .returned (.int .u64 X) ∧ w = w')
    (cl : ∀ w : World, Calls Try.prog 18 #[] w fun e w' => e = .returned (.bool true) ∧ w = w')
    (cmake : ∀ w : World, Calls Try.prog 16 #[.int .i64 s, .int .i64 g] w fun e w' => e = .returned (.int .u64 Y) ∧ w = w')
    (cch : ∀ w : World, Calls Try.prog 22 #[.int .u64 n, .int .i64 s] w fun e w' => e = .returned (.int .u64 T) ∧ w = w')
    (csy : ∀ w : World, Calls Try.prog 34 #[.int .u64 Y] w fun e w' => e = .returned (.int .i64 s) ∧ w = w')
    (cgy : ∀ w : World, Calls Try.prog 35 #[.int .u64 Y] w fun e w' => e = .returned (.int .i64 g) ∧ w = w')
    (cmy : ∀ w : World, Calls Try.prog 36 #[.int .u64 Y] w fun e w' => e = .returned (.bool false) ∧ w = w')
    (cu : ∀ w : World, Calls Try.prog 21 #[.int .u64 T] w fun e w' => e = .returned (.int .i64 s) ∧ w = w')
    (cch2 : ∀ w : World, Calls Try.prog 22 #[.int .u64 T, .int .i64 s] w fun e w' => e = .returned ((.int .u64 T')) ∧ w = w')
    (h1 : ¬ s < 0) (h2 : ¬ 255 < s) (h3 : ¬ g < 0) (h4 : ¬ 4294967295 < g) (hT : (T != n) = true) (hT' : (T' != T) = true) (w : World) :
    Calls Try.prog 8 #[.int .u64 n, .int .i64 s, .int .i64 g] w fun e w' => e = .returned (.bool true) ∧ w = w' := by
  go_enter Try.func8, Try.ntmps8
  go_wp2_with (first | (go_at_call 37; refine (cm _).mono ?_; rintro e w' ⟨rfl, rfl⟩) | (go_at_call 39; refine (cs1 _).mono ?_; rintro e w' ⟨rfl, rfl⟩) | (go_at_call 36; refine (ck _).mono ?_; rintro e w' ⟨rfl, rfl⟩) | (go_at_call 38; refine (cp _).mono ?_; rintro e w' ⟨rfl, rfl⟩) | (go_at_call 36; refine (cmx _).mono ?_; rintro e w' ⟨rfl, rfl⟩) | (go_at_call 39; refine (csx _).mono ?_; rintro e w' ⟨rfl, rfl⟩) | (go_at_call 38; refine (cpx _).mono ?_; rintro e w' ⟨rfl, rfl⟩) | (go_at_call 18; refine (cl _).mono ?_; rintro e w' ⟨rfl, rfl⟩) | (go_at_call 16; refine (cmake _).mono ?_; rintro e w' ⟨rfl, rfl⟩) | (go_at_call 22; refine (cch _).mono ?_; rintro e w' ⟨rfl, rfl⟩) | (go_at_call 34; refine (csy _).mono ?_; rintro e w' ⟨rfl, rfl⟩) | (go_at_call 35; refine (cgy _).mono ?_; rintro e w' ⟨rfl, rfl⟩) | (go_at_call 36; refine (cmy _).mono ?_; rintro e w' ⟨rfl, rfl⟩) | (go_at_call 21; refine (cu _).mono ?_; rintro e w' ⟨rfl, rfl⟩) | (go_at_call 22; refine (cch2 _).mono ?_; rintro e w' ⟨rfl, rfl⟩))
  go_ret
  exact ⟨rfl, rfl⟩

theorem keeps02_any (n s g : Int) (hn : U64 n) (w : World) :
    Calls Try.prog 8 #[.int .u64 n, .int .i64 s, .int .i64 g] w fun e w' => e = .returned (.bool true) ∧ w = w' := by
  have hlt := hn.lt
  have hc := hn.cast
  have e0 : lPlain (lMark n.toNat) = lPlain n.toNat := by unfold lPlain lMark; omega
  have e3 : lMarked (lMark n.toNat) = true := by unfold lMarked lMark; rw [decide_eq_true_eq]; omega
  have e4 : lMarked (lPlain n.toNat) = false := by unfold lMarked lPlain; rw [decide_eq_false_iff_not]; omega
  have e5 : lPlain (lPlain n.toNat) = lPlain n.toNat := by unfold lPlain; omega
  have uK : U64 ((lMark n.toNat : Nat) : Int) := U64.nat (lMark_lt _)
  have uX : U64 ((lPlain n.toNat : Nat) : Int) := U64.nat (lPlain_lt _)
  have cm := mark_any n hn
  have cs1 := same_any _ n uK hn
  rw [Int.toNat_natCast, e0, decide_eq_true rfl] at cs1
  have ck := marked_any _ uK
  rw [Int.toNat_natCast, e3] at ck
  have cp := plain_any n hn
  have cmx := marked_any _ uX
  rw [Int.toNat_natCast, e4] at cmx
  have csx := same_any _ n uX hn
  rw [Int.toNat_natCast, e5, decide_eq_true rfl] at csx
  have cpx := plain_any _ uX
  rw [Int.toNat_natCast, e5] at cpx
  by_cases h1 : s < 0
  · exact keeps02_0 cm cs1 ck cp cmx csx cpx lives02 h1 w
  by_cases h2 : 255 < s
  · exact keeps02_1 cm cs1 ck cp cmx csx cpx lives02 h1 h2 w
  by_cases h3 : g < 0
  · exact keeps02_2 cm cs1 ck cp cmx csx cpx lives02 h1 h2 h3 w
  by_cases h4 : 4294967295 < g
  · exact keeps02_3 cm cs1 ck cp cmx csx cpx lives02 h1 h2 h3 h4 w
  have us := Fld.cast_u64 s
  have ug := Fld.cast_u64 g
  have y1 : ((lSlot (lmk s g) : Nat) : Int) = s := by unfold lSlot lmk; omega
  have y2 : ((lGen (lmk s g) : Nat) : Int) = g := by unfold lGen lmk; omega
  have y3 : lMarked (lmk s g) = false := by unfold lMarked lmk; rw [decide_eq_false_iff_not]; omega
  have uY : U64 ((lmk s g : Nat) : Int) := U64.nat (lmk_lt _ _)
  have uT : ∀ k, U64 ((tmk s k : Nat) : Int) := fun k => U64.nat (tmk_lt _ _)
  have csy := slot_any _ uY
  rw [Int.toNat_natCast, y1] at csy
  have cgy := gen_any _ uY
  rw [Int.toNat_natCast, y2] at cgy
  have cmy := marked_any _ uY
  rw [Int.toNat_natCast, y3] at cmy
  have cu := link_under _ (uT (n.toNat / 256 + 1))
  rw [Int.toNat_natCast] at cu
  have y4 : ((tmk s (n.toNat / 256 + 1) % 256 : Nat) : Int) = s := by unfold tmk; omega
  rw [y4] at cu
  exact keeps02_4 cm cs1 ck cp cmx csx cpx lives02 (link_make s g) (link_changed n s hn) csy cgy cmy cu (link_changed _ s (uT _)) h1 h2 h3 h4
    (by rw [bne_iff_ne]; unfold tmk; omega) (by rw [bne_iff_ne, Int.toNat_natCast]; unfold tmk; omega) w
end Go.Proofs.Ytmjihjbedgbhbaa
