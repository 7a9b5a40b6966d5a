/- Sets of ways: Word and the document's Word. -/
import Derived.Test.YtgkogodfegfdfaaWaysF
namespace Go.Proofs.Ytgkogodfegfdfaa
set_option linter.unusedVariables false
set_option linter.unusedSimpArgs false
open Go.RowKit

theorem nine8 {k : Nat} (h : k < 4) : IntKind.i64.wrap (9 * (k : Int)) = 9 * (k : Int) := IntWalk.i64_in _ (by omega)
theorem idx_way (s0 s1 s2 s3 : Int) (t0 t1 t2 t3 : Bool) (hd tu : Int) {k : Nat} (hk : k < 4) (w : World) : (Instr.index 24 (.agg #[.int .i64 s0, .bool t0, .int .i64 s1, .bool t1, .int .i64 s2, .bool t2, .int .i64 s3, .bool t3]) (.int .i64 (k : Int))).run Try.prog w = .ok (.agg #[.int .i64 (WS.sl ⟨s0, s1, s2, s3, t0, t1, t2, t3, hd, tu⟩ k), .bool (WS.tc ⟨s0, s1, s2, s3, t0, t1, t2, t3, hd, tu⟩ k)]) w := by
  rcases (by omega : k = 0 ∨ k = 1 ∨ k = 2 ∨ k = 3) with rfl | rfl | rfl | rfl <;> simp [Instr.index, go_sem, WS.sl, WS.tc]
theorem fset_u (n m : Nat) (hn : n < 2 ^ 64) (hm : m < 2 ^ 64) (a s : Int) (ha : I64 a) (hs : I64 s) (w : World) : Calls Try.prog 22 #[.int .u64 (n : Int), .int .i64 a, .int .i64 s, .int .u64 (m : Int)] w fun e w' => e = .returned (.int .u64 (Fld.set n a s m : Nat)) ∧ w = w' := by
  have := set_any (n : Int) a s (m : Int) w (by unfold U64; omega) ha hs (by unfold U64; omega)
  simpa using this
theorem fturn_u (n : Nat) (hn : n < 2 ^ 64) (b : Int) (hb : I64 b) (on : Bool) (w : World) : Calls Try.prog 23 #[.int .u64 (n : Int), .int .i64 b, .bool on] w fun e w' => e = .returned (.int .u64 (Fld.set n b 1 (if on = true then 1 else 0) : Nat)) ∧ w = w' := by
  have := turn_any (n : Int) b on w (by unfold U64; omega) hb
  simpa using this
set_option maxHeartbeats 4000000 in
set_option maxRecDepth 100000 in
theorem word_w (s0 s1 s2 s3 : Int) (t0 t1 t2 t3 : Bool) (hd tu : Int) (htu : U64 tu) (w : World) : Calls Try.prog 14 #[.agg #[.int .i64 s0, .bool t0, .int .i64 s1, .bool t1, .int .i64 s2, .bool t2, .int .i64 s3, .bool t3, .int .i64 hd, .int .u64 tu]] w fun e w' => e = .returned (.int .u64 ((wk ⟨s0, s1, s2, s3, t0, t1, t2, t3, hd, tu⟩ 4 : Nat) : Int)) ∧ Below w.heap.size w w' := by
  have h1 := fset_u 0 (Fld.u64 hd) (by decide) (Fld.u64_lt _) 36 2 (by unfold I64; omega) (by unfold I64; omega)
  have h2 := fset_u (Fld.set 0 36 2 (Fld.u64 hd)) tu.toNat (Fld.set_lt _ _ _ _) htu.lt 38 26 (by unfold I64; omega) (by unfold I64; omega)
  rw [htu.cast] at h2
  have hw0 := wrap_u hd
  have hix := fun {k : Nat} (hk : k < 4) => idx_way s0 s1 s2 s3 t0 t1 t2 t3 hd tu hk
  have hIX : Hid _ := @hix
  have h3 : Hid (∀ k : Nat, k < 4 → ∀ w : World, Calls Try.prog 22 #[.int .u64 ((wk ⟨s0, s1, s2, s3, t0, t1, t2, t3, hd, tu⟩ k : Nat) : Int), .int .i64 (9 * (k : Int)), .int .i64 8, .int .u64 ((Fld.u64 (WS.sl ⟨s0, s1, s2, s3, t0, t1, t2, t3, hd, tu⟩ k) : Nat) : Int)] w fun e w' => e = .returned (.int .u64 (Fld.set (wk ⟨s0, s1, s2, s3, t0, t1, t2, t3, hd, tu⟩ k) (9 * (k : Int)) 8 (Fld.u64 (WS.sl ⟨s0, s1, s2, s3, t0, t1, t2, t3, hd, tu⟩ k)) : Nat)) ∧ w = w') := fun k hk w => fset_u _ _ (wk_lt _ _) (Fld.u64_lt _) _ _ (by unfold I64; omega) (by unfold I64; omega) w
  have h4 : Hid (∀ k : Nat, k < 4 → ∀ w : World, Calls Try.prog 23 #[.int .u64 ((Fld.set (wk ⟨s0, s1, s2, s3, t0, t1, t2, t3, hd, tu⟩ k) (9 * (k : Int)) 8 (Fld.u64 (WS.sl ⟨s0, s1, s2, s3, t0, t1, t2, t3, hd, tu⟩ k)) : Nat) : Int), .int .i64 (9 * (k : Int) + 8), .bool (WS.tc ⟨s0, s1, s2, s3, t0, t1, t2, t3, hd, tu⟩ k)] w fun e w' => e = .returned (.int .u64 ((wk ⟨s0, s1, s2, s3, t0, t1, t2, t3, hd, tu⟩ (k + 1) : Nat) : Int)) ∧ w = w') := fun k hk w => fturn_u _ (Fld.set_lt _ _ _ _) _ (by unfold I64; omega) _ w
  have e0 : Fld.set (Fld.set 0 36 2 (Fld.u64 hd)) 38 26 tu.toNat = wk ⟨s0, s1, s2, s3, t0, t1, t2, t3, hd, tu⟩ 0 := rfl
  rw [e0] at h2
  clear hix e0
  generalize hSS : (⟨s0, s1, s2, s3, t0, t1, t2, t3, hd, tu⟩ : WS) = S at *
  have HSS := Lib.hid hSS
  clear hSS
  generalize Fld.set 0 36 2 (Fld.u64 hd) = X0 at *
  go_enter Try.func14, Try.ntmps14
  go_wp2_with fail
  refine (h1 _).mono ?_
  rintro e w1 ⟨rfl, rfl⟩
  go_wp2_with fail
  refine (h2 _).mono ?_
  rintro e w1 ⟨rfl, rfl⟩
  clear h1 h2 hw0
  go_wp2_with fail
  go_loopg [3, 16] 4 (fun gk v i wr => ∃ k : Nat, k + gk = 4 ∧ i = .int .i64 k ∧ v = .int .u64 ((wk S k : Nat) : Int) ∧ Below w.heap.size w wr)
  case atStart => exact ⟨0, rfl, rfl, rfl, bnew (brefl w) _⟩
  case round =>
    obtain ⟨k, hk, rfl, rfl, hbW⟩ := hrel
    by_cases hlt : k < 4
    · have hi := hIX.out hlt
      have g1 := h3.out k hlt
      have g2 := h4.out k hlt
      have hw := wrap_u (S.sl k)
      have hn := nine8 hlt
      have b1 : (k : Int) < 4 := by omega
      have hz := hbW.size
      generalize S.sl k = sl at *
      generalize S.tc k = tc at *
      generalize Fld.set (wk S k) (9 * (k : Int)) 8 (Fld.u64 sl) = X1 at *
      generalize hX2 : wk S (k + 1) = X2 at *
      have HX2 := Lib.hid hX2
      clear hX2
      generalize wk S k = X at *
      go_wp2_with fail
      refine (g1 _).mono ?_
      rintro e w1 ⟨rfl, rfl⟩
      go_wp2_with fail
      refine (g2 _).mono ?_
      rintro e w1 ⟨rfl, rfl⟩
      go_wp2
      go_roundg (gk - 1)
      case measure => omega
      case rel => exact ⟨k + 1, by omega, by go_num, by rw [HX2.out], hbW.alloc hz _⟩
    · obtain rfl : k = 4 := by omega
      generalize hX : wk S 4 = X at *
      have HX := Lib.hid hX
      clear hX
      go_wp2
      go_ret
      exact ⟨by rw [HX.out]; rfl, hbW⟩

/-- A way's cells. -/
theorem SB.way {w : World} {q : Nat} {t : TypeId} {S : WS} (h : SB w q t S) {k : Nat} (hk : k < 4) : w.cell? ⟨q, k * 2, none⟩ = some (.int .i64 (S.sl k)) ∧ w.cell? ⟨q, k * 2 + 1, none⟩ = some (.bool (S.tc k)) := by
  rcases (by omega : k = 0 ∨ k = 1 ∨ k = 2 ∨ k = 3) with rfl | rfl | rfl | rfl
  · exact ⟨Blk.cell h 0, Blk.cell h 1⟩
  · exact ⟨Blk.cell h 2, Blk.cell h 3⟩
  · exact ⟨Blk.cell h 4, Blk.cell h 5⟩
  · exact ⟨Blk.cell h 6, Blk.cell h 7⟩
/-- The document's word is made by powers. -/
theorem pow_u (n : Nat) (hn : n ≤ 63) (P : Int) (hP : ((2 ^ n : Nat) : Int) = P) (w : World) : Calls Try.prog 24 #[.int .i64 (n : Int)] w fun e w' => e = .returned (.int .u64 P) ∧ w = w' := by
  rw [← hP]
  exact power_any n hn w
theorem nine8' {k : Nat} (h : k < 4) : IntKind.i64.wrap (9 * (k : Int) + 8) = 9 * (k : Int) + 8 := IntWalk.i64_in _ (by omega)
theorem u64_in {n : Int} (h0 : 0 ≤ n) (h1 : n < 18446744073709551616) : IntKind.u64.wrap n = n := by rw [IntKind.wrap_u64]; exact Int.emod_eq_of_lt h0 h1
theorem tmod_u (n : Nat) (m : Nat) : Int.tmod (n : Int) (m : Int) = ((n % m : Nat) : Int) := by simp [Int.tmod]
theorem rk_bd (S : WS) : ∀ k : Nat, k < 4 → rk S k + 255 * 2 ^ (9 * k) + 2 ^ (9 * k + 8) < 2 ^ 64 := fun k hk => by
  obtain ⟨_, L, h2, h3⟩ := wk_rk S k (by omega)
  rw [h2]
  have p10 : (2 : Nat) ^ 64 = 18446744073709551616 := by decide
  have a1 : Fld.u64 S.hd % 4 + S.tu.toNat % 67108864 * 4 ≤ 268435455 := by omega
  have hp : 2 ^ (9 * k) ≤ 2 ^ 27 := Nat.pow_le_pow_right (by decide) (by omega)
  have hq : (2 : Nat) ^ (9 * k + 8) = 2 ^ (9 * k) * 256 := by rw [Nat.pow_add]
  have p27 : (2 : Nat) ^ 27 = 134217728 := by decide
  rw [p10, hq]
  rw [p27] at hp
  generalize (2 : Nat) ^ (9 * k) = P at *
  generalize Fld.u64 S.hd % 4 + S.tu.toNat % 67108864 * 4 = A at *
  omega
set_option maxHeartbeats 4000000 in
set_option maxRecDepth 100000 in
theorem rword_w (s0 s1 s2 s3 : Int) (t0 t1 t2 t3 : Bool) (hd tu : Int) (htu : U64 tu) (w : World) : Calls Try.prog 15 #[.agg #[.int .i64 s0, .bool t0, .int .i64 s1, .bool t1, .int .i64 s2, .bool t2, .int .i64 s3, .bool t3, .int .i64 hd, .int .u64 tu]] w fun e w' => e = .returned (.int .u64 ((rk ⟨s0, s1, s2, s3, t0, t1, t2, t3, hd, tu⟩ 4 : Nat) : Int)) ∧ Below w.heap.size w w' := by
  have p36 := pow_u 36 (by decide) 68719476736 (by decide)
  have p26 := pow_u 26 (by decide) 67108864 (by decide)
  have p38 := pow_u 38 (by decide) 274877906944 (by decide)
  have hw0 := wrap_u hd
  have hR0 : Hid (((rk ⟨s0, s1, s2, s3, t0, t1, t2, t3, hd, tu⟩ 0 : Nat) : Int) = ((Fld.u64 hd % 4 : Nat) : Int) * 68719476736 + ((tu.toNat % 67108864 : Nat) : Int) * 274877906944) := by
    rw [Hid, rk]
    dsimp only
    omega
  have d1 : Int.tmod ((Fld.u64 hd : Nat) : Int) 4 = ((Fld.u64 hd % 4 : Nat) : Int) := tmod_u _ 4
  have d2 : Int.tmod tu 67108864 = ((tu.toNat % 67108864 : Nat) : Int) := by
    have := tmod_u tu.toNat 67108864
    rwa [htu.cast] at this
  have x1 : ((Fld.u64 hd % 4 : Nat) : Int) < 4 := by omega
  have x2 : 0 ≤ ((Fld.u64 hd % 4 : Nat) : Int) := by omega
  have x3 : ((tu.toNat % 67108864 : Nat) : Int) < 67108864 := by omega
  have x4 : 0 ≤ ((tu.toNat % 67108864 : Nat) : Int) := by omega
  have hk1 : Hid (∀ k : Nat, k < 4 → ((rk ⟨s0, s1, s2, s3, t0, t1, t2, t3, hd, tu⟩ k : Nat) : Int) + 255 * ((2 ^ (9 * k) : Nat) : Int) + ((2 ^ (9 * k + 8) : Nat) : Int) < 18446744073709551616) := fun k hk => by
    have := rk_bd ⟨s0, s1, s2, s3, t0, t1, t2, t3, hd, tu⟩ k hk
    have p10 : (2 : Nat) ^ 64 = 18446744073709551616 := by decide
    rw [p10] at this
    omega
  have hk2 : Hid (∀ k : Nat, ((rk ⟨s0, s1, s2, s3, t0, t1, t2, t3, hd, tu⟩ (k + 1) : Nat) : Int) = ((rk ⟨s0, s1, s2, s3, t0, t1, t2, t3, hd, tu⟩ k : Nat) : Int) + ((Fld.u64 (WS.sl ⟨s0, s1, s2, s3, t0, t1, t2, t3, hd, tu⟩ k) % 256 : Nat) : Int) * ((2 ^ (9 * k) : Nat) : Int) + (if WS.tc ⟨s0, s1, s2, s3, t0, t1, t2, t3, hd, tu⟩ k = true then ((2 ^ (9 * k + 8) : Nat) : Int) else 0)) := fun k => by
    rw [rk]
    split <;> simp
  go_enter Try.func15, Try.ntmps15
  go_upto_region 1 with (fail)
  obtain ⟨W0, hW0, hsb, hbW⟩ : ∃ W0, w.alloc (.cells #[.int .i64 s0, .bool t0, .int .i64 s1, .bool t1, .int .i64 s2, .bool t2, .int .i64 s3, .bool t3, .int .i64 hd, .int .u64 tu] 31) = W0 ∧ SB W0 w.heap.size 31 ⟨s0, s1, s2, s3, t0, t1, t2, t3, hd, tu⟩ ∧ Below w.heap.size w W0 :=
    ⟨_, rfl, Blk.new _ _ _, bnew (brefl w) _⟩
  rw [hW0]
  clear hW0
  have k8 : W0.cell? ⟨w.heap.size, 8, none⟩ = some (.int .i64 hd) := hsb.cell 8
  have k9 : W0.cell? ⟨w.heap.size, 9, none⟩ = some (.int .u64 tu) := hsb.cell 9
  generalize hA : ((Fld.u64 hd % 4 : Nat) : Int) = a at *
  generalize hB : ((tu.toNat % 67108864 : Nat) : Int) = b at *
  clear hA hB
  have m1 : IntKind.u64.wrap (a * 68719476736) = a * 68719476736 := u64_in (by omega) (by omega)
  have m2 : IntKind.u64.wrap (b * 274877906944) = b * 274877906944 := u64_in (by omega) (by omega)
  have m3 : IntKind.u64.wrap (a * 68719476736 + b * 274877906944) = a * 68719476736 + b * 274877906944 := u64_in (by omega) (by omega)
  have hX := @Ext.cell W0
  have hzz0 := block_lt_of_cell k8
  refine wp_region_noPanic ?_
  refine wp_region_plan (fun w' => ∃ x : Ext W0, w' = x.w) [([0, 1, 2, 3, 6, 7], 4), ([5], 8), ([9], 10)] [11, 12, 13] (by kernel_rfl) (by kernel_rfl) (by kernel_rfl) (fun _ _ _ _ _ h => h) ⟨⟨_, (brefl W0).drew⟩, rfl⟩ ?_
  refine wpPlan_cons ?_
  simp only [pickOps, List.getElem?_cons_succ, List.getElem?_cons_zero, Option.elim_some]
  repeat (go_big_quiet_step (fail))
  refine wpQuiet_nil ?_
  refine planAct_some (fun K hK => ?_)
  go_simp
  refine (p36 _).mono ?_
  rintro e w' ⟨rfl, rfl⟩
  go_wp2_with fail
  refine hK.out _ _ ⟨⟨_, (brefl W0).drew⟩, rfl⟩ ?_
  clear hK K
  refine wpPlan_cons ?_
  simp only [pickOps, List.getElem?_cons_succ, List.getElem?_cons_zero, Option.elim_some]
  repeat (go_big_quiet_step (fail))
  refine wpQuiet_nil ?_
  refine planAct_some (fun K hK => ?_)
  go_simp
  refine (p26 _).mono ?_
  rintro e w' ⟨rfl, rfl⟩
  go_wp2_with fail
  refine hK.out _ _ ⟨⟨_, (brefl W0).drew⟩, rfl⟩ ?_
  clear hK K
  refine wpPlan_cons ?_
  simp only [pickOps, List.getElem?_cons_succ, List.getElem?_cons_zero, Option.elim_some]
  repeat (go_big_quiet_step (fail))
  refine wpQuiet_nil ?_
  refine planAct_some (fun K hK => ?_)
  go_simp
  refine (p38 _).mono ?_
  rintro e w' ⟨rfl, rfl⟩
  go_wp2_with fail
  refine hK.out _ _ ⟨⟨_, (brefl W0).drew⟩, rfl⟩ ?_
  clear hK K
  refine wpPlan_last ?_
  simp only [pickOps, List.getElem?_cons_succ, List.getElem?_cons_zero, Option.elim_some]
  repeat (go_big_quiet_step (fail))
  refine wpQuiet_nil ?_
  refine NoPanic.normal ?_
  clear hX hzz0
  rw [← hR0.out]
  clear m1 m2 m3 d1 d2 x1 x2 x3 x4 hw0 p36 p26 p38 k8 k9
  have hsb2 : SB W0.drew w.heap.size 31 ⟨s0, s1, s2, s3, t0, t1, t2, t3, hd, tu⟩ := hsb
  have hbW2 := hbW.drew
  generalize W0.drew = W1 at *
  clear hsb hbW
  go_wp2_with fail
  generalize hSS : (⟨s0, s1, s2, s3, t0, t1, t2, t3, hd, tu⟩ : WS) = S at *
  have HSS := Lib.hid hSS
  clear hSS
  go_loopg [3, 4] 4 (fun gk v i wr => ∃ k : Nat, k + gk = 4 ∧ i = .int .i64 k ∧ v = .int .u64 ((rk S k : Nat) : Int) ∧ SB wr w.heap.size 31 S ∧ Below w.heap.size w wr)
  case atStart => exact ⟨0, rfl, rfl, rfl, hsb2, hbW2⟩
  case round =>
    clear hsb2 hbW2 hR0
    obtain ⟨k, hk, rfl, rfl, hsb, hbW⟩ := hrel
    by_cases hlt : k < 4
    · obtain ⟨y0, y1⟩ := hsb.way hlt
      have hb1 := hk1.out k hlt
      have hb2 := hk2.out k
      have hw := wrap_u (S.sl k)
      have hn := nine8 hlt
      have hn' := nine8' hlt
      have d3 : Int.tmod ((Fld.u64 (S.sl k) : Nat) : Int) 256 = ((Fld.u64 (S.sl k) % 256 : Nat) : Int) := tmod_u _ 256
      have x1 : ((Fld.u64 (S.sl k) % 256 : Nat) : Int) ≤ 255 := by omega
      have x2 : 0 ≤ ((Fld.u64 (S.sl k) % 256 : Nat) : Int) := by omega
      have pw := fun (P : Int) (h : ((2 ^ (9 * k) : Nat) : Int) = P) => pow_u (9 * k) (by omega) P h
      have pv := fun (P : Int) (h : ((2 ^ (9 * k + 8) : Nat) : Int) = P) => pow_u (9 * k + 8) (by omega) P h
      have pw := pw _ rfl
      have pv := pv _ rfl
      have c1 : ((9 * k : Nat) : Int) = 9 * (k : Int) := by omega
      have c2 : ((9 * k + 8 : Nat) : Int) = 9 * (k : Int) + 8 := by omega
      rw [c1] at pw
      rw [c2] at pv
      have HB2 := Lib.hid hb2
      clear hb2 c1 c2
      have q0 : 0 ≤ ((2 ^ (9 * k) : Nat) : Int) := Int.natCast_nonneg _
      have q1 : 0 ≤ ((2 ^ (9 * k + 8) : Nat) : Int) := Int.natCast_nonneg _
      have q2 : 0 ≤ ((rk S k : Nat) : Int) := Int.natCast_nonneg _
      have b1 : (k : Int) < 4 := by omega
      have b0 : 0 ≤ (k : Int) := by omega
      generalize ((Fld.u64 (S.sl k) % 256 : Nat) : Int) = C at *
      generalize ((2 ^ (9 * k) : Nat) : Int) = P at *
      generalize ((2 ^ (9 * k + 8) : Nat) : Int) = P2 at *
      generalize ((rk S k : Nat) : Int) = R at *
      have hCP : C * P ≤ 255 * P := Int.mul_le_mul_of_nonneg_right x1 q0
      have hCP0 : 0 ≤ C * P := Int.mul_nonneg x2 q0
      have m4 : IntKind.u64.wrap (C * P) = C * P := u64_in hCP0 (by omega)
      have m5 : IntKind.u64.wrap (R + C * P) = R + C * P := u64_in (by omega) (by omega)
      have m6 : IntKind.u64.wrap (R + C * P + P2) = R + C * P + P2 := u64_in (by omega) (by omega)
      generalize S.sl k = sl at *
      generalize hT : S.tc k = tc at *
      clear hT
      have hz := hsb.lt
      go_upto_region 5 with (fail)
      have hX := @Ext.cell wr
      have hzz0 := block_lt_of_cell y0
      refine wp_region_noPanic ?_
      refine wp_region_plan (fun w' => ∃ x : Ext wr, w' = x.w) [([0, 1, 2, 3, 4, 5, 6, 7, 8, 9], 10)] [11, 12, 13] (by kernel_rfl) (by kernel_rfl) (by kernel_rfl) (fun _ _ _ _ _ h => h) ⟨⟨_, (brefl wr).drew⟩, rfl⟩ ?_
      refine wpPlan_cons ?_
      simp only [pickOps, List.getElem?_cons_succ, List.getElem?_cons_zero, Option.elim_some]
      repeat (go_big_quiet_step (fail))
      refine wpQuiet_nil ?_
      refine planAct_some (fun K hK => ?_)
      go_simp
      refine (pw _).mono ?_
      rintro e w' ⟨rfl, rfl⟩
      go_wp2_with fail
      refine hK.out _ _ ⟨⟨_, (brefl wr).drew⟩, rfl⟩ ?_
      clear hK K
      refine wpPlan_last ?_
      simp only [pickOps, List.getElem?_cons_succ, List.getElem?_cons_zero, Option.elim_some]
      repeat (go_big_quiet_step (fail))
      refine wpQuiet_nil ?_
      refine NoPanic.normal ?_
      clear hX hzz0
      have hsb' : SB wr.drew w.heap.size 31 S := hsb
      have hbW' := hbW.drew
      have y1' : wr.drew.cell? ⟨w.heap.size, k * 2 + 1, none⟩ = some (.bool tc) := y1
      have hz' : w.heap.size < wr.drew.heap.size := hz
      clear y0 y1 hsb hbW hz d3 hw m4
      generalize wr.drew = w5 at *
      have hzc : 0 ≤ R + C * P := by omega
      have HB2' : Hid (((rk S (k + 1) : Nat) : Int) = (R + C * P) + (if tc = true then P2 else 0)) := HB2.out
      clear HB2 hCP hCP0 x1 x2 m5
      generalize R + C * P = V at *
      cases tc
      · go_wp2
        go_roundg (gk - 1)
        case measure => omega
        case rel => exact ⟨k + 1, by omega, by go_num, by rw [HB2'.out]; simp, hsb', hbW'⟩
      · go_wp2_with fail
        refine (pv _).mono ?_
        rintro e w6 ⟨rfl, rfl⟩
        go_wp2
        go_roundg (gk - 1)
        case measure => omega
        case rel => exact ⟨k + 1, by omega, by go_num, by rw [HB2'.out]; simp, hsb', hbW'⟩
    · obtain rfl : k = 4 := by omega
      generalize hX : rk S 4 = X at *
      have HX := Lib.hid hX
      clear hX hk1 hk2
      go_wp2
      go_ret
      exact ⟨by rw [HSS.out, HX.out]; rfl, hbW⟩
end Go.Proofs.Ytgkogodfegfdfaa
