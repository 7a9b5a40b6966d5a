/- The law WaysGives: the walk. -/
import Derived.Test.YtgkogodfegfdfaaWaysL
namespace Go.Proofs.Ytgkogodfegfdfaa
set_option linter.unusedVariables false
set_option linter.unusedSimpArgs false
open Go.RowKit

theorem size_pw (w : World) : (sizeOf 23).run Try.prog w = .ok 2 w := by rfl
theorem arrP (d : Nat) (xs ys : Array Value) (w : World) : (Op.equalIn (d + 1) 24 (.agg xs) (.agg ys)).run Try.prog w = (eqElems d 23 2 xs ys [0, 1, 2, 3]).run Try.prog w :=
  run_equalIn_array w d 24 23 4 2 xs ys Try.underlying24 size_pw
theorem neA (S : WS) (w : World) : (binOp .neq 24 (.agg #[.int .i64 S.s0, .bool S.t0, .int .i64 S.s1, .bool S.t1, .int .i64 S.s2, .bool S.t2, .int .i64 S.s3, .bool S.t3]) (.agg #[.int .i64 S.s0, .bool S.t0, .int .i64 S.s1, .bool S.t1, .int .i64 S.s2, .bool S.t2, .int .i64 S.s3, .bool S.t3])).run Try.prog w = .ok (.bool false) w := by
  simp [go_sem, arrP, eqElems]
theorem neW (x : Int) (b : Bool) (w : World) : (binOp .neq 23 (.agg #[.int .i64 x, .bool b]) (.agg #[.int .i64 x, .bool b])).run Try.prog w = .ok (.bool false) w := by
  simp [go_sem, eqElems]
theorem fieldW (T : WS) (h2 u2 : Int) (w : World) : (Instr.field 27 (.agg #[.int .i64 T.s0, .bool T.t0, .int .i64 T.s1, .bool T.t1, .int .i64 T.s2, .bool T.t2, .int .i64 T.s3, .bool T.t3, .int .i64 h2, .int .u64 u2]) 0).run Try.prog w = .ok (.agg #[.int .i64 T.s0, .bool T.t0, .int .i64 T.s1, .bool T.t1, .int .i64 T.s2, .bool T.t2, .int .i64 T.s3, .bool T.t3]) w := by
  simp [Instr.field, go_sem, asAgg]
set_option maxHeartbeats 8000000 in
set_option maxRecDepth 100000 in
theorem gives_lo (n slot : Int) (hn : U64 n) (h : slot < 1 ∨ 255 < slot) (w : World) : Calls Try.prog 5 #[.int .u64 n, .int .i64 slot] w fun e w' => e = .returned (.bool true) ∧ Below w.heap.size w w' := by
  have hr := read_w n hn
  generalize readS n.toNat = S at *
  rcases (by omega : slot < 1 ∨ (¬ slot < 1 ∧ 255 < slot)) with h | ⟨h', h⟩
  · go_enter Try.func5, Try.ntmps5
    go_wp2_with fail
    refine (hr _).mono ?_
    rintro e w1 ⟨rfl, hb1⟩
    go_wp2_with fail
    refine (lives11 _).mono ?_
    rintro e w2 ⟨rfl, hb2⟩
    go_wp2
    go_ret
    exact ⟨rfl, bnext (bnew hb1 _) hb2⟩
  · have t : decide (slot < 1) = false := decide_eq_false h'
    go_enter Try.func5, Try.ntmps5
    go_wp2_with fail
    refine (hr _).mono ?_
    rintro e w1 ⟨rfl, hb1⟩
    go_wp2_with fail
    refine (lives11 _).mono ?_
    rintro e w2 ⟨rfl, hb2⟩
    go_wp2
    go_ret
    exact ⟨rfl, bnext (bnew hb1 _) hb2⟩

set_option maxHeartbeats 8000000 in
set_option maxRecDepth 100000 in
theorem gives_w (n slot : Int) (S T : WS) (N : Nat) (was : Int) (p : PutOk S slot T N was) (V : Int) (h2 u2 : Int) (hs0 : 1 ≤ slot) (hs1 : slot ≤ 255)
    (hr : ∀ w : World, Calls Try.prog 16 #[.int .u64 n] w fun e w' => e = .returned (.agg #[.int .i64 S.s0, .bool S.t0, .int .i64 S.s1, .bool S.t1, .int .i64 S.s2, .bool S.t2, .int .i64 S.s3, .bool S.t3, .int .i64 S.hd, .int .u64 S.tu]) ∧ Below w.heap.size w w')
    (hp : ∀ w : World, Calls Try.prog 11 #[.agg #[.int .i64 S.s0, .bool S.t0, .int .i64 S.s1, .bool S.t1, .int .i64 S.s2, .bool S.t2, .int .i64 S.s3, .bool S.t3, .int .i64 S.hd, .int .u64 S.tu], .int .i64 slot] w fun e w' => e = .returned (.tuple #[.agg #[.int .i64 T.s0, .bool T.t0, .int .i64 T.s1, .bool T.t1, .int .i64 T.s2, .bool T.t2, .int .i64 T.s3, .bool T.t3, .int .i64 T.hd, .int .u64 T.tu], .int .i64 (N : Int), .int .i64 was]) ∧ Below w.heap.size w w')
    (hw : ∀ w : World, Calls Try.prog 14 #[.agg #[.int .i64 T.s0, .bool T.t0, .int .i64 T.s1, .bool T.t1, .int .i64 T.s2, .bool T.t2, .int .i64 T.s3, .bool T.t3, .int .i64 T.hd, .int .u64 T.tu]] w fun e w' => e = .returned (.int .u64 V) ∧ Below w.heap.size w w')
    (hv : ∀ w : World, Calls Try.prog 16 #[.int .u64 V] w fun e w' => e = .returned (.agg #[.int .i64 T.s0, .bool T.t0, .int .i64 T.s1, .bool T.t1, .int .i64 T.s2, .bool T.t2, .int .i64 T.s3, .bool T.t3, .int .i64 h2, .int .u64 u2]) ∧ Below w.heap.size w w') (w : World) :
    Calls Try.prog 5 #[.int .u64 n, .int .i64 slot] w fun e w' => e = .returned (.bool true) ∧ Below w.heap.size w w' := by
  have t1 : decide (slot < 1) = false := decide_eq_false (by omega)
  have t2 : decide ((255 : Int) < slot) = false := decide_eq_false (by omega)
  go_enter Try.func5, Try.ntmps5
  go_wp2_with fail
  refine (hr _).mono ?_
  rintro e w1 ⟨rfl, hb1⟩
  go_upto_region 2 with (fail)
  obtain ⟨W2, hW2, hS, kb2⟩ : ∃ W2, w1.alloc (.cells #[.int .i64 S.s0, .bool S.t0, .int .i64 S.s1, .bool S.t1, .int .i64 S.s2, .bool S.t2, .int .i64 S.s3, .bool S.t3, .int .i64 S.hd, .int .u64 S.tu] 27) = W2 ∧ SB W2 w1.heap.size 27 S ∧ Below w.heap.size w W2 := ⟨_, rfl, Blk.new _ _ _, bnew hb1 _⟩
  rw [hW2]
  clear hW2 hb1 hr
  generalize w1.heap.size = Q5 at *
  have k0 : W2.cell? ⟨Q5, 0, none⟩ = some (.int .i64 S.s0) := hS.cell 0
  have k1 : W2.cell? ⟨Q5, 1, none⟩ = some (.bool S.t0) := hS.cell 1
  have k2 : W2.cell? ⟨Q5, 2, none⟩ = some (.int .i64 S.s1) := hS.cell 2
  have k3 : W2.cell? ⟨Q5, 3, none⟩ = some (.bool S.t1) := hS.cell 3
  have k4 : W2.cell? ⟨Q5, 4, none⟩ = some (.int .i64 S.s2) := hS.cell 4
  have k5 : W2.cell? ⟨Q5, 5, none⟩ = some (.bool S.t2) := hS.cell 5
  have k6 : W2.cell? ⟨Q5, 6, none⟩ = some (.int .i64 S.s3) := hS.cell 6
  have k7 : W2.cell? ⟨Q5, 7, none⟩ = some (.bool S.t3) := hS.cell 7
  have k8 : W2.cell? ⟨Q5, 8, none⟩ = some (.int .i64 S.hd) := hS.cell 8
  have k9 : W2.cell? ⟨Q5, 9, none⟩ = some (.int .u64 S.tu) := hS.cell 9
  have hzq := hS.lt
  go_wp2_with fail
  refine (hp _).mono ?_
  rintro e w3 ⟨rfl, hb3⟩
  clear k0 k1 k2 k3 k4 k5 k6 k7 k8 k9 hzq hp t1 t2
  have hS3 : SB w3 Q5 27 S := Blk.below_ hS hb3
  have kb3 := bnext kb2 hb3
  clear hS kb2 hb3
  go_upto_region 5 with (fail)
  obtain ⟨W4, hW4, hS, hT, kb4⟩ : ∃ W4, w3.alloc (.cells #[.int .i64 T.s0, .bool T.t0, .int .i64 T.s1, .bool T.t1, .int .i64 T.s2, .bool T.t2, .int .i64 T.s3, .bool T.t3, .int .i64 T.hd, .int .u64 T.tu] 27) = W4 ∧ SB W4 Q5 27 S ∧ SB W4 w3.heap.size 27 T ∧ Below w.heap.size w W4 := ⟨_, rfl, Blk.alloc hS3 _, Blk.new _ _ _, bnew kb3 _⟩
  rw [hW4]
  clear hW4 hS3 kb3
  generalize w3.heap.size = Q6 at *
  have hN := p.lt
  have x0 : W4.cell? ⟨Q6, 0, none⟩ = some (.int .i64 T.s0) := hT.cell 0
  have x1 : W4.cell? ⟨Q6, 1, none⟩ = some (.bool T.t0) := hT.cell 1
  have x2 : W4.cell? ⟨Q6, 2, none⟩ = some (.int .i64 T.s1) := hT.cell 2
  have x3 : W4.cell? ⟨Q6, 3, none⟩ = some (.bool T.t1) := hT.cell 3
  have x4 : W4.cell? ⟨Q6, 4, none⟩ = some (.int .i64 T.s2) := hT.cell 4
  have x5 : W4.cell? ⟨Q6, 5, none⟩ = some (.bool T.t2) := hT.cell 5
  have x6 : W4.cell? ⟨Q6, 6, none⟩ = some (.int .i64 T.s3) := hT.cell 6
  have x7 : W4.cell? ⟨Q6, 7, none⟩ = some (.bool T.t3) := hT.cell 7
  have x8 : W4.cell? ⟨Q6, 8, none⟩ = some (.int .i64 T.hd) := hT.cell 8
  have x9 : W4.cell? ⟨Q6, 9, none⟩ = some (.int .u64 T.tu) := hT.cell 9
  obtain ⟨y0, y1⟩ := hT.way hN
  obtain ⟨z0, z1⟩ := hS.way hN
  rw [p.at_] at y0
  rw [p.on] at y1
  rw [p.was_] at z0
  have n1 := neW slot true
  have n2 := neA T
  have n3 := fieldW T h2 u2
  have u1 : (was != was) = false := by simp
  have t3 : decide ((N : Int) < 0) = false := decide_eq_false (by omega)
  have t4 : decide ((3 : Int) < (N : Int)) = false := decide_eq_false (by omega)
  have t5 : (0 : Int) ≤ (N : Int) := by omega
  have t6 : (N : Int) < 4 := by omega
  have hX := @Ext.cell W4
  have hzz0 := block_lt_of_cell x0
  have hzz1 := block_lt_of_cell z0
  have hzz2 := block_lt_of_cell y0
  refine wp_region_noPanic ?_
  refine wp_region_tree (fun w' => ∃ x : Ext W4, w' = x.w) (PT.one [0, 1, 2, 3, 4, 5, 6, 7, 8, 9, 10, 11] 12 (PT.one [13, 14, 15, 16, 17, 18, 19, 20, 21, 22, 23, 24, 25, 29, 30] 26 (PT.one [] 27 (PT.fin [28, 31, 32])))) (by kernel_rfl) (by kernel_rfl) (by kernel_rfl) (fun _ _ _ _ _ h => h) ⟨⟨_, (brefl W4).drew⟩, rfl⟩ ?_
  refine wpTree_one ?_
  simp only [pickOps, List.getElem?_cons_succ, List.getElem?_cons_zero, Option.elim_some]
  repeat (go_big_quiet_step (fail))
  refine wpQuiet_nil ?_
  refine planAct_some (fun K hK => ?_)
  go_simp
  refine hK.out _ _ (ext_mem (brefl W4).drew) ?_
  clear hK K
  refine wpTree_one ?_
  simp only [pickOps, List.getElem?_cons_succ, List.getElem?_cons_zero, Option.elim_some]
  repeat (go_big_quiet_step (fail))
  refine wpQuiet_nil ?_
  refine planAct_some (fun K hK => ?_)
  go_simp
  refine (hw _).mono ?_
  rintro e w5 ⟨rfl, h5⟩
  go_wp2_with fail
  refine hK.out _ _ ⟨⟨_, (bnext (brefl W4).drew h5)⟩, rfl⟩ ?_
  clear hK K
  refine wpTree_one ?_
  simp only [pickOps, List.getElem?_cons_succ, List.getElem?_cons_zero, Option.elim_some]
  repeat (go_big_quiet_step (fail))
  refine wpQuiet_nil ?_
  refine planAct_some (fun K hK => ?_)
  go_simp
  refine (hv _).mono ?_
  rintro e w6 ⟨rfl, h6⟩
  go_wp2_with fail
  refine hK.out _ _ ⟨⟨_, (bnext (bnext (brefl W4).drew h5) h6)⟩, rfl⟩ ?_
  clear hK K
  refine wpTree_fin ?_
  simp only [pickOps, List.getElem?_cons_succ, List.getElem?_cons_zero, Option.elim_some]
  repeat (go_big_quiet_step (fail))
  refine wpQuiet_nil ?_
  refine NoPanic.normal ?_
  clear hX hzz0 hzz1 hzz2
  have hb6 := bnext (bnext (brefl W4).drew h5) h6
  have hS6 : SB w6 Q5 27 S := Blk.below_ hS hb6
  have hT6 : SB w6 Q6 27 T := Blk.below_ hT hb6
  have kb6 := bnext kb4 hb6
  clear x0 x1 x2 x3 x4 x5 x6 x7 x8 x9 y0 y1 z0 z1 n1 n2 n3 u1 t3 t4 hS hT h5 h6 hb6 kb4 hw hv
  go_wp2_with fail
  go_loopg [9] 4 (fun gk i wr => ∃ (k d : Nat), k + gk = 4 ∧ i = .int .i64 k ∧ wr = w6.drewN d)
  case atStart => exact ⟨0, 0, rfl, rfl, rfl⟩
  case round =>
    obtain ⟨k, d, hk, rfl, rfl⟩ := hrel
    by_cases hlt : k < 4
    · obtain ⟨c0, c1⟩ := hS6.way hlt
      obtain ⟨d0, d1⟩ := hT6.way hlt
      obtain ⟨e0, e1⟩ := hS6.way hN
      have hzero := p.zero k hlt
      have hall := fun (h : was ≠ 0) (g : S.tc N = true) => p.all h g k hlt
      have hy := p.sl k hlt
      have hc := p.tc k hlt
      have b0 : (0 : Int) ≤ (k : Int) := by omega
      have b1 : (k : Int) < 4 := by omega
      have hq5 := hS6.lt
      have hq6 := hT6.lt
      clear p hS6 hT6 e0
      generalize S.sl k = x at *
      generalize hbk : S.tc k = b at *
      generalize hbn : S.tc N = bn at *
      generalize T.sl k = y at *
      generalize T.tc k = c at *
      clear hbk hbn
      by_cases hx : x = 0
      · have v3 : (x == 0) = true := by simp [hx]
        have v4 : (was != 0) = false := by simp [hzero hx]
        clear hx hzero hall
        by_cases hkN : k = N
        · have v1 : (((k : Nat) : Int) != ((N : Nat) : Int)) = false := by simp [hkN]
          clear hkN
          go_wp2_with fail
          go_quiet (fail)
          go_wp2
          go_roundg (gk - 1)
          case measure => omega
          case rel => exact ⟨k + 1, _, by omega, by go_num, by first | rfl | exact World.drewN_drewN _ _ _⟩
        · have v1 : (((k : Nat) : Int) != ((N : Nat) : Int)) = true := by simp; omega
          have v2 : (y != x) = false := by rw [hy hkN]; simp
          have hcb := hc hkN
          clear hkN hy hc
          rcases (Bool.eq_false_or_eq_true c).symm with rfl | rfl
          · go_wp2_with fail
            go_quiet (fail)
            go_wp2
            go_roundg (gk - 1)
            case measure => omega
            case rel => exact ⟨k + 1, _, by omega, by go_num, by first | rfl | exact World.drewN_drewN _ _ _⟩
          · obtain rfl : b = true := hcb rfl
            go_wp2_with fail
            go_quiet (fail)
            go_wp2
            go_roundg (gk - 1)
            case measure => omega
            case rel => exact ⟨k + 1, _, by omega, by go_num, by first | rfl | exact World.drewN_drewN _ _ _⟩
      · have v3 : (x == 0) = false := by simpa using hx
        clear hx hzero
        by_cases hwz : was = 0
        · have v4 : (was != 0) = false := by simp [hwz]
          clear hwz hall
          by_cases hkN : k = N
          · have v1 : (((k : Nat) : Int) != ((N : Nat) : Int)) = false := by simp [hkN]
            clear hkN
            go_wp2_with fail
            go_quiet (fail)
            go_wp2
            go_roundg (gk - 1)
            case measure => omega
            case rel => exact ⟨k + 1, _, by omega, by go_num, by first | rfl | exact World.drewN_drewN _ _ _⟩
          · have v1 : (((k : Nat) : Int) != ((N : Nat) : Int)) = true := by simp; omega
            have v2 : (y != x) = false := by rw [hy hkN]; simp
            have hcb := hc hkN
            clear hkN hy hc
            rcases (Bool.eq_false_or_eq_true c).symm with rfl | rfl
            · go_wp2_with fail
              go_quiet (fail)
              go_wp2
              go_roundg (gk - 1)
              case measure => omega
              case rel => exact ⟨k + 1, _, by omega, by go_num, by first | rfl | exact World.drewN_drewN _ _ _⟩
            · obtain rfl : b = true := hcb rfl
              go_wp2_with fail
              go_quiet (fail)
              go_wp2
              go_roundg (gk - 1)
              case measure => omega
              case rel => exact ⟨k + 1, _, by omega, by go_num, by first | rfl | exact World.drewN_drewN _ _ _⟩
        · have v4 : (was != 0) = true := by simpa using hwz
          have hall2 := hall hwz
          clear hwz hall
          rcases (Bool.eq_false_or_eq_true bn).symm with rfl | rfl
          · clear hall2
            by_cases hkN : k = N
            · have v1 : (((k : Nat) : Int) != ((N : Nat) : Int)) = false := by simp [hkN]
              clear hkN
              go_wp2_with fail
              go_quiet (fail)
              go_wp2
              go_roundg (gk - 1)
              case measure => omega
              case rel => exact ⟨k + 1, _, by omega, by go_num, by first | rfl | exact World.drewN_drewN _ _ _⟩
            · have v1 : (((k : Nat) : Int) != ((N : Nat) : Int)) = true := by simp; omega
              have v2 : (y != x) = false := by rw [hy hkN]; simp
              have hcb := hc hkN
              clear hkN hy hc
              rcases (Bool.eq_false_or_eq_true c).symm with rfl | rfl
              · go_wp2_with fail
                go_quiet (fail)
                go_wp2
                go_roundg (gk - 1)
                case measure => omega
                case rel => exact ⟨k + 1, _, by omega, by go_num, by first | rfl | exact World.drewN_drewN _ _ _⟩
              · obtain rfl : b = true := hcb rfl
                go_wp2_with fail
                go_quiet (fail)
                go_wp2
                go_roundg (gk - 1)
                case measure => omega
                case rel => exact ⟨k + 1, _, by omega, by go_num, by first | rfl | exact World.drewN_drewN _ _ _⟩
          · obtain rfl : b = true := hall2 rfl
            clear hall2
            by_cases hkN : k = N
            · have v1 : (((k : Nat) : Int) != ((N : Nat) : Int)) = false := by simp [hkN]
              clear hkN
              go_wp2_with fail
              go_quiet (fail)
              go_wp2
              go_roundg (gk - 1)
              case measure => omega
              case rel => exact ⟨k + 1, _, by omega, by go_num, by first | rfl | exact World.drewN_drewN _ _ _⟩
            · have v1 : (((k : Nat) : Int) != ((N : Nat) : Int)) = true := by simp; omega
              have v2 : (y != x) = false := by rw [hy hkN]; simp
              have hcb := hc hkN
              clear hkN hy hc
              rcases (Bool.eq_false_or_eq_true c).symm with rfl | rfl
              · go_wp2_with fail
                go_quiet (fail)
                go_wp2
                go_roundg (gk - 1)
                case measure => omega
                case rel => exact ⟨k + 1, _, by omega, by go_num, by first | rfl | exact World.drewN_drewN _ _ _⟩
              · skip
                go_wp2_with fail
                go_quiet (fail)
                go_wp2
                go_roundg (gk - 1)
                case measure => omega
                case rel => exact ⟨k + 1, _, by omega, by go_num, by first | rfl | exact World.drewN_drewN _ _ _⟩
    · obtain rfl : k = 4 := by omega
      clear p hS6 hT6
      go_wp2_with fail
      refine (lives11 _).mono ?_
      rintro e w9 ⟨rfl, hb9⟩
      go_wp2
      go_ret
      exact ⟨rfl, bnext (below_drewN kb6 d) hb9⟩
end Go.Proofs.Ytgkogodfegfdfaa
