/- Sets of ways: the document's Read. -/
import Derived.Test.YtgkogodfegfdfaaWaysH
namespace Go.Proofs.Ytgkogodfegfdfaa
set_option linter.unusedVariables false
set_option linter.unusedSimpArgs false
open Go.RowKit
theorem tdiv_u (n : Nat) (m : Nat) : Int.tdiv (n : Int) (m : Int) = ((n / m : Nat) : Int) := by simp [Int.tdiv]
theorem qr_u (N P M : Nat) : Int.tmod (Int.tdiv (N : Int) (P : Int)) (M : Int) = ((N / P % M : Nat) : Int) := by rw [tdiv_u, tmod_u]

set_option maxHeartbeats 4000000 in
set_option maxRecDepth 100000 in
theorem rread_w (n : Int) (hn : U64 n) (w : World) : Calls Try.prog 17 #[.int .u64 n] w fun e w' => e = .returned (.agg #[.int .i64 (readS n.toNat).s0, .bool (readS n.toNat).t0, .int .i64 (readS n.toNat).s1, .bool (readS n.toNat).t1, .int .i64 (readS n.toNat).s2, .bool (readS n.toNat).t2, .int .i64 (readS n.toNat).s3, .bool (readS n.toNat).t3, .int .i64 (readS n.toNat).hd, .int .u64 (readS n.toNat).tu]) ∧ Below w.heap.size w w' := by
  have c0 : n.toNat < 18446744073709551616 := hn.lt
  have cn := hn.cast
  have p36 := pow_u 36 (by decide) 68719476736 (by decide)
  have p38 := pow_u 38 (by decide) 274877906944 (by decide)
  have p0 := pow_u 0 (by decide) 1 (by decide)
  have p9 := pow_u 9 (by decide) 512 (by decide)
  have p18 := pow_u 18 (by decide) 262144 (by decide)
  have p27 := pow_u 27 (by decide) 134217728 (by decide)
  have d1 : Int.tmod (Int.tdiv n 68719476736) 4 = ((n.toNat / 68719476736 % 4 : Nat) : Int) := by
    have h := qr_u n.toNat 68719476736 4
    rw [cn] at h
    exact h
  have d2 : Int.tdiv n 274877906944 = ((n.toNat / 274877906944 : Nat) : Int) := by
    have h := tdiv_u n.toNat 274877906944
    rw [cn] at h
    exact h
  have e0 : Int.tmod (Int.tdiv n 1) 512 = ((n.toNat / 1 % 512 : Nat) : Int) := by
    have h := qr_u n.toNat 1 512
    rw [cn] at h
    exact h
  have e1 : Int.tmod (Int.tdiv n 512) 512 = ((n.toNat / 512 % 512 : Nat) : Int) := by
    have h := qr_u n.toNat 512 512
    rw [cn] at h
    exact h
  have e2 : Int.tmod (Int.tdiv n 262144) 512 = ((n.toNat / 262144 % 512 : Nat) : Int) := by
    have h := qr_u n.toNat 262144 512
    rw [cn] at h
    exact h
  have e3 : Int.tmod (Int.tdiv n 134217728) 512 = ((n.toNat / 134217728 % 512 : Nat) : Int) := by
    have h := qr_u n.toNat 134217728 512
    rw [cn] at h
    exact h
  obtain ⟨s0, hs0⟩ : ∃ s : Nat, (n.toNat % 256) = s := ⟨_, rfl⟩
  obtain ⟨t0, ht0⟩ : ∃ t : Bool, decide (256 ≤ n.toNat % 512) = t := ⟨_, rfl⟩
  have bs0 : s0 < 256 := by omega
  obtain ⟨s1, hs1⟩ : ∃ s : Nat, (n.toNat / 512 % 256) = s := ⟨_, rfl⟩
  obtain ⟨t1, ht1⟩ : ∃ t : Bool, decide (256 ≤ n.toNat / 512 % 512) = t := ⟨_, rfl⟩
  have bs1 : s1 < 256 := by omega
  obtain ⟨s2, hs2⟩ : ∃ s : Nat, (n.toNat / 262144 % 256) = s := ⟨_, rfl⟩
  obtain ⟨t2, ht2⟩ : ∃ t : Bool, decide (256 ≤ n.toNat / 262144 % 512) = t := ⟨_, rfl⟩
  have bs2 : s2 < 256 := by omega
  obtain ⟨s3, hs3⟩ : ∃ s : Nat, (n.toNat / 134217728 % 256) = s := ⟨_, rfl⟩
  obtain ⟨t3, ht3⟩ : ∃ t : Bool, decide (256 ≤ n.toNat / 134217728 % 512) = t := ⟨_, rfl⟩
  have bs3 : s3 < 256 := by omega
  obtain ⟨hd, hhd⟩ : ∃ s : Nat, n.toNat / 68719476736 % 4 = s := ⟨_, rfl⟩
  obtain ⟨tu, htu⟩ : ∃ s : Nat, n.toNat / 274877906944 = s := ⟨_, rfl⟩
  have bh : hd < 4 := by omega
  have bt : tu < 67108864 := by omega
  have HR : Hid (readS n.toNat = ⟨(s0 : Int), (s1 : Int), (s2 : Int), (s3 : Int), t0, t1, t2, t3, (hd : Int), (tu : Int)⟩) := by rw [Hid, readS, hs0, hs1, hs2, hs3, ht0, ht1, ht2, ht3, hhd, htu]
  have d1' : n / 68719476736 % 4 = ((hd : Nat) : Int) := by omega
  have d2' : n / 274877906944 = ((tu : Nat) : Int) := by omega
  rw [hhd] at d1
  rw [htu] at d2
  obtain ⟨v0, hv0⟩ : ∃ v : Nat, n.toNat / 1 % 512 = v := ⟨_, rfl⟩
  have hm0 : Int.tmod ((v0 : Nat) : Int) 256 = ((s0 : Nat) : Int) := by
    have : v0 % 256 = s0 := by omega
    rw [← this]
    exact tmod_u _ 256
  have hge0 : decide ((256 : Int) ≤ ((v0 : Nat) : Int)) = t0 := by
    rw [← ht0]
    have : n.toNat % 512 = v0 := by omega
    rw [this, decide_eq_decide]
    omega
  have e0' : n / 1 % 512 = ((v0 : Nat) : Int) := by omega
  have e0b : n % 512 = ((v0 : Nat) : Int) := by omega
  have e0c : n % 256 = ((s0 : Nat) : Int) := by omega
  rw [hv0] at e0
  have bv0 : v0 < 512 := by omega
  obtain ⟨v1, hv1⟩ : ∃ v : Nat, n.toNat / 512 % 512 = v := ⟨_, rfl⟩
  have hm1 : Int.tmod ((v1 : Nat) : Int) 256 = ((s1 : Nat) : Int) := by
    have : v1 % 256 = s1 := by omega
    rw [← this]
    exact tmod_u _ 256
  have hge1 : decide ((256 : Int) ≤ ((v1 : Nat) : Int)) = t1 := by
    rw [← ht1]
    have := hv1
    rw [this, decide_eq_decide]
    omega
  have e1' : n / 512 % 512 = ((v1 : Nat) : Int) := by omega
  rw [hv1] at e1
  have bv1 : v1 < 512 := by omega
  obtain ⟨v2, hv2⟩ : ∃ v : Nat, n.toNat / 262144 % 512 = v := ⟨_, rfl⟩
  have hm2 : Int.tmod ((v2 : Nat) : Int) 256 = ((s2 : Nat) : Int) := by
    have : v2 % 256 = s2 := by omega
    rw [← this]
    exact tmod_u _ 256
  have hge2 : decide ((256 : Int) ≤ ((v2 : Nat) : Int)) = t2 := by
    rw [← ht2]
    have := hv2
    rw [this, decide_eq_decide]
    omega
  have e2' : n / 262144 % 512 = ((v2 : Nat) : Int) := by omega
  rw [hv2] at e2
  have bv2 : v2 < 512 := by omega
  obtain ⟨v3, hv3⟩ : ∃ v : Nat, n.toNat / 134217728 % 512 = v := ⟨_, rfl⟩
  have hm3 : Int.tmod ((v3 : Nat) : Int) 256 = ((s3 : Nat) : Int) := by
    have : v3 % 256 = s3 := by omega
    rw [← this]
    exact tmod_u _ 256
  have hge3 : decide ((256 : Int) ≤ ((v3 : Nat) : Int)) = t3 := by
    rw [← ht3]
    have := hv3
    rw [this, decide_eq_decide]
    omega
  have e3' : n / 134217728 % 512 = ((v3 : Nat) : Int) := by omega
  rw [hv3] at e3
  have bv3 : v3 < 512 := by omega
  clear hs0 ht0 hs1 ht1 hs2 ht2 hs3 ht3 hhd htu hv0 hv1 hv2 hv3
  have hw0 : IntKind.i64.wrap ((s0 : Nat) : Int) = ((s0 : Nat) : Int) := IntWalk.i64_in _ (by omega)
  have hw1 : IntKind.i64.wrap ((s1 : Nat) : Int) = ((s1 : Nat) : Int) := IntWalk.i64_in _ (by omega)
  have hw2 : IntKind.i64.wrap ((s2 : Nat) : Int) = ((s2 : Nat) : Int) := IntWalk.i64_in _ (by omega)
  have hw3 : IntKind.i64.wrap ((s3 : Nat) : Int) = ((s3 : Nat) : Int) := IntWalk.i64_in _ (by omega)
  have hwh : IntKind.i64.wrap ((hd : Nat) : Int) = ((hd : Nat) : Int) := IntWalk.i64_in _ (by omega)
  have CN := Lib.hid cn
  have u0 : 0 ≤ n := hn.1
  have u1 : n < 18446744073709551616 := hn.2
  clear cn c0 hn
  go_enter Try.func17, Try.ntmps17
  go_upto_region 1 with (fail)
  obtain ⟨W0, hW0, hzb, hbW⟩ : ∃ W0, w.alloc (.cells #[.int .i64 0, .bool false, .int .i64 0, .bool false, .int .i64 0, .bool false, .int .i64 0, .bool false, .int .i64 0, .int .u64 0] 31) = W0 ∧ Blk W0 w.heap.size 31 #[.int .i64 0, .bool false, .int .i64 0, .bool false, .int .i64 0, .bool false, .int .i64 0, .bool false, .int .i64 0, .int .u64 0] ∧ Below w.heap.size w W0 :=
    ⟨_, rfl, Blk.new _ _ _, bnew (brefl w) _⟩
  rw [hW0]
  clear hW0
  generalize hBB : w.heap.size = B at *
  have HB := Lib.hid hBB
  clear hBB
  have hzl := hzb.lt
  have z0 : W0.cell? ⟨B, 0, none⟩ = some (.int .i64 0) := hzb.cell 0
  go_cut [3] (fun s3 w' => ∃ Q, s3 = .pointer (some ⟨Q, 0, none⟩) ∧ B < Q ∧ Blk w' B 31 #[.int .i64 0, .bool false, .int .i64 0, .bool false, .int .i64 0, .bool false, .int .i64 0, .bool false, .int .i64 0, .int .u64 0] ∧ SB w' Q 31 ⟨0, 0, 0, 0, false, false, false, false, (hd : Int), (tu : Int)⟩ ∧ Below B w w')
  case first =>
    have hX := @Ext.cell W0
    have hzz0 := block_lt_of_cell z0
    refine wp_region_noPanic ?_
    refine wp_region_tree (fun w' => ∃ x : Ext W0, w' = x.w) (PT.two [0, 5] 1 (PT.two [2, 3, 4] 6 (PT.one [7, 8] 9 (PT.one [] 10 (PT.fin []))) 9 (PT.one [] 6 (PT.one [7, 8] 10 (PT.fin [])))) 9 (PT.one [] 1 (PT.one [2, 3, 4] 6 (PT.one [7, 8] 10 (PT.fin []))))) (by kernel_rfl) (by kernel_rfl) (by kernel_rfl) (fun _ _ _ _ _ h => h) ⟨⟨_, (brefl W0).drew⟩, rfl⟩ ?_
    refine wpTree_two ?_
    simp only [pickOps, List.getElem?_cons_succ, List.getElem?_cons_zero, Option.elim_some]
    repeat (go_big_quiet_step (fail))
    refine wpQuiet_nil ?_
    refine ⟨?_, ?_⟩
    · refine planAct_some (fun K hK => ?_)
      go_simp
      refine (p36 _).mono ?_
      rintro e w' ⟨rfl, rfl⟩
      go_wp2_with fail
      refine hK.out _ _ ⟨⟨_, (brefl W0).drew⟩, rfl⟩ ?_
      clear hK K
      refine wpTree_two ?_
      simp only [pickOps, List.getElem?_cons_succ, List.getElem?_cons_zero, Option.elim_some]
      repeat (go_big_quiet_step (fail))
      refine wpQuiet_nil ?_
      refine ⟨?_, ?_⟩
      · refine planAct_some (fun K hK => ?_)
        go_simp
        refine (p38 _).mono ?_
        rintro e w' ⟨rfl, rfl⟩
        go_wp2_with fail
        refine hK.out _ _ ⟨⟨_, (brefl W0).drew⟩, rfl⟩ ?_
        clear hK K
        refine wpTree_one ?_
        simp only [pickOps, List.getElem?_cons_succ, List.getElem?_cons_zero, Option.elim_some]
        repeat (go_big_quiet_step (fail))
        refine wpQuiet_nil ?_
        refine planAct_some (fun K hK => ?_)
        go_simp
        refine hK.out _ _ (ext_mem (bnew (brefl W0).drew _)) ?_
        clear hK K
        refine wpTree_one ?_
        simp only [pickOps, List.getElem?_cons_succ, List.getElem?_cons_zero, Option.elim_some]
        repeat (go_big_quiet_step (fail))
        refine wpQuiet_nil ?_
        refine planAct_some (fun K hK => ?_)
        go_simp
        refine hK.out _ _ (ext_mem (by repeat (first | (with_reducible exact (brefl W0).drew) | (with_reducible exact brefl W0) | (with_reducible refine bset ?_ (by simp) _) | (with_reducible refine bnew ?_ _) | (with_reducible refine Below.drew ?_)))) ?_
        clear hK K
        refine wpTree_fin ?_
        simp only [pickOps, List.getElem?_cons_succ, List.getElem?_cons_zero, Option.elim_some]
        repeat (go_big_quiet_step (fail))
        refine wpQuiet_nil ?_
        refine NoPanic.normal ?_
        clear hX hzz0
        go_wp2_with fail
        go_meet
        case rel => exact ⟨W0.heap.size, rfl, hzl, (hzb.alloc _).drew, Blk.drew (Blk.new_ _ _ _ rfl), (hbW.alloc (by omega) _).drew⟩
      · refine planAct_some (fun K hK => ?_)
        go_simp
        refine hK.out _ _ (ext_mem (bnew (brefl W0).drew _)) ?_
        clear hK K
        refine wpTree_one ?_
        simp only [pickOps, List.getElem?_cons_succ, List.getElem?_cons_zero, Option.elim_some]
        repeat (go_big_quiet_step (fail))
        refine wpQuiet_nil ?_
        refine planAct_some (fun K hK => ?_)
        go_simp
        refine (p38 _).mono ?_
        rintro e w' ⟨rfl, rfl⟩
        go_wp2_with fail
        refine hK.out _ _ ⟨⟨_, (bnew (brefl W0).drew _)⟩, rfl⟩ ?_
        clear hK K
        refine wpTree_one ?_
        simp only [pickOps, List.getElem?_cons_succ, List.getElem?_cons_zero, Option.elim_some]
        repeat (go_big_quiet_step (fail))
        refine wpQuiet_nil ?_
        refine planAct_some (fun K hK => ?_)
        go_simp
        refine hK.out _ _ (ext_mem (by repeat (first | (with_reducible exact (brefl W0).drew) | (with_reducible exact brefl W0) | (with_reducible refine bset ?_ (by simp) _) | (with_reducible refine bnew ?_ _) | (with_reducible refine Below.drew ?_)))) ?_
        clear hK K
        refine wpTree_fin ?_
        simp only [pickOps, List.getElem?_cons_succ, List.getElem?_cons_zero, Option.elim_some]
        repeat (go_big_quiet_step (fail))
        refine wpQuiet_nil ?_
        refine NoPanic.normal ?_
        clear hX hzz0
        go_wp2_with fail
        go_meet
        case rel => exact ⟨W0.heap.size, rfl, hzl, (hzb.alloc _).drew, Blk.drew (Blk.new_ _ _ _ rfl), (hbW.alloc (by omega) _).drew⟩
    · refine planAct_some (fun K hK => ?_)
      go_simp
      refine hK.out _ _ (ext_mem (bnew (brefl W0).drew _)) ?_
      clear hK K
      refine wpTree_one ?_
      simp only [pickOps, List.getElem?_cons_succ, List.getElem?_cons_zero, Option.elim_some]
      repeat (go_big_quiet_step (fail))
      refine wpQuiet_nil ?_
      refine planAct_some (fun K hK => ?_)
      go_simp
      refine (p36 _).mono ?_
      rintro e w' ⟨rfl, rfl⟩
      go_wp2_with fail
      refine hK.out _ _ ⟨⟨_, (bnew (brefl W0).drew _)⟩, rfl⟩ ?_
      clear hK K
      refine wpTree_one ?_
      simp only [pickOps, List.getElem?_cons_succ, List.getElem?_cons_zero, Option.elim_some]
      repeat (go_big_quiet_step (fail))
      refine wpQuiet_nil ?_
      refine planAct_some (fun K hK => ?_)
      go_simp
      refine (p38 _).mono ?_
      rintro e w' ⟨rfl, rfl⟩
      go_wp2_with fail
      refine hK.out _ _ ⟨⟨_, (bnew (brefl W0).drew _)⟩, rfl⟩ ?_
      clear hK K
      refine wpTree_one ?_
      simp only [pickOps, List.getElem?_cons_succ, List.getElem?_cons_zero, Option.elim_some]
      repeat (go_big_quiet_step (fail))
      refine wpQuiet_nil ?_
      refine planAct_some (fun K hK => ?_)
      go_simp
      refine hK.out _ _ (ext_mem (by repeat (first | (with_reducible exact (brefl W0).drew) | (with_reducible exact brefl W0) | (with_reducible refine bset ?_ (by simp) _) | (with_reducible refine bnew ?_ _) | (with_reducible refine Below.drew ?_)))) ?_
      clear hK K
      refine wpTree_fin ?_
      simp only [pickOps, List.getElem?_cons_succ, List.getElem?_cons_zero, Option.elim_some]
      repeat (go_big_quiet_step (fail))
      refine wpQuiet_nil ?_
      refine NoPanic.normal ?_
      clear hX hzz0
      go_wp2_with fail
      go_meet
      case rel => exact ⟨W0.heap.size, rfl, hzl, (hzb.alloc _).drew, Blk.drew (Blk.new_ _ _ _ rfl), (hbW.alloc (by omega) _).drew⟩
  case rest =>
  obtain ⟨Q, rfl, hQ1, hzb, hxb, hbW⟩ := hcut
  clear z0 hzl p36 p38 d1 d2 d1' d2'
  go_wp2_with fail
  go_loopg [4] 4 (fun gk i wr => ∃ (k : Nat) (X : WS), k + gk = 4 ∧ i = .int .i64 k ∧ Hid (X = ⟨if 0 < k then (s0 : Int) else 0, if 1 < k then (s1 : Int) else 0, if 2 < k then (s2 : Int) else 0, if 3 < k then (s3 : Int) else 0, decide (0 < k) && t0, decide (1 < k) && t1, decide (2 < k) && t2, decide (3 < k) && t3, (hd : Int), (tu : Int)⟩) ∧ Blk wr B 31 #[.int .i64 0, .bool false, .int .i64 0, .bool false, .int .i64 0, .bool false, .int .i64 0, .bool false, .int .i64 0, .int .u64 0] ∧ SB wr Q 31 X ∧ Below B w wr)
  case atStart => exact ⟨0, _, rfl, rfl, rfl, hzb, by simpa using hxb, hbW⟩
  case round =>
    clear hzb hxb hbW
    obtain ⟨k, X, hk, rfl, hX, hzb, hxb, hbW⟩ := hrel
    have hBs : B ≤ wr.heap.size := by have := hzb.lt; omega
    have hq2 := hzb.lt
    have hq3 := hxb.lt
    rcases (by omega : k = 0 ∨ k = 1 ∨ k = 2 ∨ k = 3 ∨ k = 4) with rfl | rfl | rfl | rfl | rfl
    · obtain rfl : X = ⟨0, 0, 0, 0, false, false, false, false, (hd : Int), (tu : Int)⟩ := by simpa [Hid] using hX
      have x0 := hxb.cell 0
      have x1 := hxb.cell 1
      have y0 := hxb.frozen 0
      have y1 := hxb.frozen 1
      simp [wcell] at x0 x1
      have HX : Hid (SB ((wr.setCell ⟨Q, 0, none⟩ (.int .i64 (s0 : Int))).setCell ⟨Q, 1, none⟩ (.bool t0)) Q 31 ⟨(s0 : Int), 0, 0, 0, t0, false, false, false, (hd : Int), (tu : Int)⟩) := by
        have := Blk.set_ (Blk.set_ hxb 0 (.int .i64 (s0 : Int))) 1 (.bool t0)
        simpa [SB, wcell, Hid] using this
      have HZ := Lib.hid ((hzb.far (p := ⟨Q, 0, none⟩) (by simp; omega) (.int .i64 (s0 : Int))).far (p := ⟨Q, 1, none⟩) (by simp; omega) (.bool t0))
      have HBW := Lib.hid ((hbW.setCell (p := ⟨Q, 0, none⟩) (by simp; omega) (.int .i64 (s0 : Int))).setCell (p := ⟨Q, 1, none⟩) (by simp; omega) (.bool t0))
      clear hzb hxb hbW hX
      go_wp2_with fail
      refine (p0 _).mono ?_
      rintro e w1 ⟨rfl, rfl⟩
      go_wp2
      go_roundg (gk - 1)
      case measure => omega
      case rel => exact ⟨0 + 1, _, by omega, by first | rfl | go_num, rfl, HZ.out, HX.out, HBW.out⟩
    · obtain rfl : X = ⟨(s0 : Int), 0, 0, 0, t0, false, false, false, (hd : Int), (tu : Int)⟩ := by simpa [Hid] using hX
      have x0 := hxb.cell 2
      have x1 := hxb.cell 3
      have y0 := hxb.frozen 2
      have y1 := hxb.frozen 3
      simp [wcell] at x0 x1
      have HX : Hid (SB ((wr.setCell ⟨Q, 2, none⟩ (.int .i64 (s1 : Int))).setCell ⟨Q, 3, none⟩ (.bool t1)) Q 31 ⟨(s0 : Int), (s1 : Int), 0, 0, t0, t1, false, false, (hd : Int), (tu : Int)⟩) := by
        have := Blk.set_ (Blk.set_ hxb 2 (.int .i64 (s1 : Int))) 3 (.bool t1)
        simpa [SB, wcell, Hid] using this
      have HZ := Lib.hid ((hzb.far (p := ⟨Q, 2, none⟩) (by simp; omega) (.int .i64 (s1 : Int))).far (p := ⟨Q, 3, none⟩) (by simp; omega) (.bool t1))
      have HBW := Lib.hid ((hbW.setCell (p := ⟨Q, 2, none⟩) (by simp; omega) (.int .i64 (s1 : Int))).setCell (p := ⟨Q, 3, none⟩) (by simp; omega) (.bool t1))
      clear hzb hxb hbW hX
      go_wp2_with fail
      refine (p9 _).mono ?_
      rintro e w1 ⟨rfl, rfl⟩
      go_wp2
      go_roundg (gk - 1)
      case measure => omega
      case rel => exact ⟨1 + 1, _, by omega, by first | rfl | go_num, rfl, HZ.out, HX.out, HBW.out⟩
    · obtain rfl : X = ⟨(s0 : Int), (s1 : Int), 0, 0, t0, t1, false, false, (hd : Int), (tu : Int)⟩ := by simpa [Hid] using hX
      have x0 := hxb.cell 4
      have x1 := hxb.cell 5
      have y0 := hxb.frozen 4
      have y1 := hxb.frozen 5
      simp [wcell] at x0 x1
      have HX : Hid (SB ((wr.setCell ⟨Q, 4, none⟩ (.int .i64 (s2 : Int))).setCell ⟨Q, 5, none⟩ (.bool t2)) Q 31 ⟨(s0 : Int), (s1 : Int), (s2 : Int), 0, t0, t1, t2, false, (hd : Int), (tu : Int)⟩) := by
        have := Blk.set_ (Blk.set_ hxb 4 (.int .i64 (s2 : Int))) 5 (.bool t2)
        simpa [SB, wcell, Hid] using this
      have HZ := Lib.hid ((hzb.far (p := ⟨Q, 4, none⟩) (by simp; omega) (.int .i64 (s2 : Int))).far (p := ⟨Q, 5, none⟩) (by simp; omega) (.bool t2))
      have HBW := Lib.hid ((hbW.setCell (p := ⟨Q, 4, none⟩) (by simp; omega) (.int .i64 (s2 : Int))).setCell (p := ⟨Q, 5, none⟩) (by simp; omega) (.bool t2))
      clear hzb hxb hbW hX
      go_wp2_with fail
      refine (p18 _).mono ?_
      rintro e w1 ⟨rfl, rfl⟩
      go_wp2
      go_roundg (gk - 1)
      case measure => omega
      case rel => exact ⟨2 + 1, _, by omega, by first | rfl | go_num, rfl, HZ.out, HX.out, HBW.out⟩
    · obtain rfl : X = ⟨(s0 : Int), (s1 : Int), (s2 : Int), 0, t0, t1, t2, false, (hd : Int), (tu : Int)⟩ := by simpa [Hid] using hX
      have x0 := hxb.cell 6
      have x1 := hxb.cell 7
      have y0 := hxb.frozen 6
      have y1 := hxb.frozen 7
      simp [wcell] at x0 x1
      have HX : Hid (SB ((wr.setCell ⟨Q, 6, none⟩ (.int .i64 (s3 : Int))).setCell ⟨Q, 7, none⟩ (.bool t3)) Q 31 ⟨(s0 : Int), (s1 : Int), (s2 : Int), (s3 : Int), t0, t1, t2, t3, (hd : Int), (tu : Int)⟩) := by
        have := Blk.set_ (Blk.set_ hxb 6 (.int .i64 (s3 : Int))) 7 (.bool t3)
        simpa [SB, wcell, Hid] using this
      have HZ := Lib.hid ((hzb.far (p := ⟨Q, 6, none⟩) (by simp; omega) (.int .i64 (s3 : Int))).far (p := ⟨Q, 7, none⟩) (by simp; omega) (.bool t3))
      have HBW := Lib.hid ((hbW.setCell (p := ⟨Q, 6, none⟩) (by simp; omega) (.int .i64 (s3 : Int))).setCell (p := ⟨Q, 7, none⟩) (by simp; omega) (.bool t3))
      clear hzb hxb hbW hX
      go_wp2_with fail
      refine (p27 _).mono ?_
      rintro e w1 ⟨rfl, rfl⟩
      go_wp2
      go_roundg (gk - 1)
      case measure => omega
      case rel => exact ⟨3 + 1, _, by omega, by first | rfl | go_num, rfl, HZ.out, HX.out, HBW.out⟩
    · obtain rfl : X = ⟨(s0 : Int), (s1 : Int), (s2 : Int), (s3 : Int), t0, t1, t2, t3, (hd : Int), (tu : Int)⟩ := by simpa [Hid] using hX
      have k0 : wr.cell? ⟨Q, 0, none⟩ = some (.int .i64 (s0 : Int)) := hxb.cell 0
      have k1 : wr.cell? ⟨Q, 1, none⟩ = some (.bool t0) := hxb.cell 1
      have k2 : wr.cell? ⟨Q, 2, none⟩ = some (.int .i64 (s1 : Int)) := hxb.cell 2
      have k3 : wr.cell? ⟨Q, 3, none⟩ = some (.bool t1) := hxb.cell 3
      have k4 : wr.cell? ⟨Q, 4, none⟩ = some (.int .i64 (s2 : Int)) := hxb.cell 4
      have k5 : wr.cell? ⟨Q, 5, none⟩ = some (.bool t2) := hxb.cell 5
      have k6 : wr.cell? ⟨Q, 6, none⟩ = some (.int .i64 (s3 : Int)) := hxb.cell 6
      have k7 : wr.cell? ⟨Q, 7, none⟩ = some (.bool t3) := hxb.cell 7
      have k8 : wr.cell? ⟨Q, 8, none⟩ = some (.int .i64 (hd : Int)) := hxb.cell 8
      have k9 : wr.cell? ⟨Q, 9, none⟩ = some (.int .u64 (tu : Int)) := hxb.cell 9
      have z0 : wr.cell? ⟨B, 0, none⟩ = some (.int .i64 0) := hzb.cell 0
      have z1 : wr.cell? ⟨B, 1, none⟩ = some (.bool false) := hzb.cell 1
      have z2 : wr.cell? ⟨B, 2, none⟩ = some (.int .i64 0) := hzb.cell 2
      have z3 : wr.cell? ⟨B, 3, none⟩ = some (.bool false) := hzb.cell 3
      have z4 : wr.cell? ⟨B, 4, none⟩ = some (.int .i64 0) := hzb.cell 4
      have z5 : wr.cell? ⟨B, 5, none⟩ = some (.bool false) := hzb.cell 5
      have z6 : wr.cell? ⟨B, 6, none⟩ = some (.int .i64 0) := hzb.cell 6
      have z7 : wr.cell? ⟨B, 7, none⟩ = some (.bool false) := hzb.cell 7
      have z8 : wr.cell? ⟨B, 8, none⟩ = some (.int .i64 0) := hzb.cell 8
      have z9 : wr.cell? ⟨B, 9, none⟩ = some (.int .u64 0) := hzb.cell 9
      have f0 := hzb.frozen 0
      have f1 := hzb.frozen 1
      have f2 := hzb.frozen 2
      have f3 := hzb.frozen 3
      have f4 := hzb.frozen 4
      have f5 := hzb.frozen 5
      have f6 := hzb.frozen 6
      have f7 := hzb.frozen 7
      have f8 := hzb.frozen 8
      have f9 := hzb.frozen 9
      clear hzb hxb hX
      go_wp2
      refine bodyPost_ret (v := .agg #[.int .i64 (s0 : Int), .bool t0, .int .i64 (s1 : Int), .bool t1, .int .i64 (s2 : Int), .bool t2, .int .i64 (s3 : Int), .bool t3, .int .i64 (hd : Int), .int .u64 (tu : Int)]) (by simp [results, Try.results17, go_sem, z0, z1, z2, z3, z4, z5, z6, z7, z8, z9, hq2, hq3]) rfl ⟨by rw [HR.out], ?_⟩
      rw [HB.out]
      repeat (first | (with_reducible exact hbW) | (with_reducible refine Below.setCell ?_ (by simp <;> omega) _) | (with_reducible refine Below.drew ?_))
end Go.Proofs.Ytgkogodfegfdfaa
