/- Marks held against each other: the closure that the sort is handed. -/
import Derived.Test.YtkcilmnmbfbogaaLayS
import Derived.Test.YtkcilmnmbfbogaaEvP
import Derived.Test.YtkcilmnmbfbogaaHistI
namespace Go.Proofs.Ytkcilmnmbfbogaa
set_option linter.unusedVariables false
set_option linter.unusedSimpArgs false
open Go.RowKit Go.Sort

set_option maxHeartbeats 4000000 in
set_option maxRecDepth 100000 in
theorem cmp_any (x y : Int) (w : World) : Calls Try.prog 37 #[.int .i64 x, .int .i64 y] w fun e w' => e = .returned (.int .i64 (Lib.compareInt x y)) ∧ w = w' := by
  by_cases h1 : x < y
  · have HR : Hid (Lib.compareInt x y = -1) := by unfold Hid Lib.compareInt; simp [h1]
    go_enter Try.func37, Try.ntmps37
    go_wp2
    go_ret
    exact ⟨by rw [HR.out]; rfl, rfl⟩
  · by_cases h2 : y < x
    · have HR : Hid (Lib.compareInt x y = 1) := by unfold Hid Lib.compareInt; simp [h1, h2]
      have t1 : decide (x < y) = false := decide_eq_false h1
      clear h1
      go_enter Try.func37, Try.ntmps37
      go_wp2
      go_ret
      exact ⟨by rw [HR.out]; rfl, rfl⟩
    · have HR : Hid (Lib.compareInt x y = 0) := by unfold Hid Lib.compareInt; simp [h1, h2]
      have t1 : decide (x < y) = false := decide_eq_false h1
      have t2 : decide (y < x) = false := decide_eq_false h2
      clear h1 h2
      go_enter Try.func37, Try.ntmps37
      go_wp2
      go_ret
      exact ⟨by rw [HR.out]; rfl, rfl⟩
theorem cmpi_ne {x y : Int} (h : x ≠ y) : Lib.compareInt x y ≠ 0 := by unfold Lib.compareInt; split <;> (try split) <;> omega
theorem cmpi_eq (x : Int) : Lib.compareInt x x = 0 := by unfold Lib.compareInt; simp
/-- What the first three that part tell. -/
def CmpAt (xs ys : Nat → Int) (r : Int) : Prop := ∃ k, (∀ j, j < k → xs j = ys j) ∧ ((k < 3 ∧ xs k ≠ ys k ∧ r = Lib.compareInt (xs k) (ys k)) ∨ (k = 3 ∧ r = 0))
def CmpR (xs ys : Nat → Int) (w : World) (e : Ending) (w' : World) : Prop := ∃ r : Int, CmpAt xs ys r ∧ e = .returned (.int .i64 r) ∧ w = w'
set_option maxHeartbeats 4000000 in
set_option maxRecDepth 100000 in
theorem compare_any {w : World} {g h : Nat} {c d : Nat} {xs ys : Nat → Int} (hx : ∀ j, j < 3 → w.cell? ⟨g, j, none⟩ = some (.int .i64 (xs j))) (hy : ∀ j, j < 3 → w.cell? ⟨h, j, none⟩ = some (.int .i64 (ys j))) :
    Calls Try.prog 26 #[.slice (some ⟨g, 0, none⟩) 3 c, .slice (some ⟨h, 0, none⟩) 3 d] w (CmpR xs ys w) := by
  have HX := Lib.hid hx
  have HY := Lib.hid hy
  clear hx hy
  go_enter Try.func26, Try.ntmps26
  go_wp2_with fail
  go_loopg [11] 3 (fun gk i wr => ∃ k : Nat, k + gk = 3 ∧ i = .int .i64 k ∧ (∀ j, j < k → xs j = ys j) ∧ wr = w)
  case atStart => exact ⟨0, rfl, rfl, fun j hj => by omega, rfl⟩
  case round =>
    obtain ⟨k, hk, rfl, hall, rfl⟩ := hrel
    by_cases hlt : k < 3
    · have x0 := HX.out k hlt
      have y0 := HY.out k hlt
      have b0 : (0 : Int) ≤ (k : Int) := by omega
      have b1 : (k : Int) < 3 := by omega
      have z1 := block_lt_of_cell x0
      have z2 := block_lt_of_cell y0
      have HA := Lib.hid hall
      clear hall
      by_cases he : xs k = ys k
      · have hc := fun W => cmp_any (xs k) (ys k) W
        have H0 : Lib.compareInt (xs k) (ys k) = 0 := by rw [he]; exact cmpi_eq _
        rw [H0] at hc
        have HE := Lib.hid he
        clear H0 he
        go_wp2_with (go_at_call 37; refine (hc _).mono ?_; rintro e w1 ⟨rfl, rfl⟩)
        go_roundg (gk - 1)
        case measure => omega
        case rel => exact ⟨k + 1, by omega, by go_num, (fun j hj => by
          by_cases q : j = k
          · subst q; exact HE.out
          · exact HA.out j (by omega)), rfl⟩
      · have hc := fun W => cmp_any (xs k) (ys k) W
        have HR : CmpAt xs ys (Lib.compareInt (xs k) (ys k)) := ⟨k, HA.out, .inl ⟨hlt, he, rfl⟩⟩
        have hne := cmpi_ne he
        have HR := Lib.hid HR
        generalize Lib.compareInt (xs k) (ys k) = r at *
        have t1 : (r != 0) = true := by simpa using hne
        clear he hne
        go_wp2_with (go_at_call 37; refine (hc _).mono ?_; rintro e w1 ⟨rfl, rfl⟩)
        go_ret
        exact ⟨r, HR.out, rfl, rfl⟩
    · have b1 : ¬ ((k : Int) < 3) := by omega
      obtain rfl : k = 3 := by omega
      have HA := Lib.hid hall
      clear hall
      go_wp2_with fail
      go_ret
      exact ⟨0, ⟨3, HA.out, .inr ⟨rfl, rfl⟩⟩, rfl, rfl⟩

def xs3 (x : Mk) : Nat → Int := fun j => if j = 0 then x.tm else if j = 1 then x.bk else x.o
/-- What a mark is, held against another one. -/
def cmpM (x y : Mk) : Int := if x.tm = y.tm then (if x.bk = y.bk then Lib.compareInt x.o y.o else Lib.compareInt x.bk y.bk) else Lib.compareInt x.tm y.tm
theorem cmpAt_M {x y : Mk} {r : Int} (h : CmpAt (xs3 x) (xs3 y) r) : r = cmpM x y := by
  obtain ⟨k, h1, h2⟩ := h
  unfold cmpM
  rcases h2 with ⟨hk, hne, hr⟩ | ⟨rfl, rfl⟩
  · rcases (by omega : k = 0 ∨ k = 1 ∨ k = 2) with rfl | rfl | rfl
    · rw [if_neg (by simpa [xs3] using hne)]; simpa [xs3] using hr
    · have a0 : x.tm = y.tm := by simpa [xs3] using h1 0 (by omega)
      rw [if_pos a0, if_neg (by simpa [xs3] using hne)]; simpa [xs3] using hr
    · have a0 : x.tm = y.tm := by simpa [xs3] using h1 0 (by omega)
      have a1 : x.bk = y.bk := by simpa [xs3] using h1 1 (by omega)
      rw [if_pos a0, if_pos a1]; simpa [xs3] using hr
  · have a0 : x.tm = y.tm := by simpa [xs3] using h1 0 (by omega)
    have a1 : x.bk = y.bk := by simpa [xs3] using h1 1 (by omega)
    have a2 : x.o = y.o := by simpa [xs3] using h1 2 (by omega)
    rw [if_pos a0, if_pos a1, a2, cmpi_eq]
theorem cmpi_lt {x y : Int} : Lib.compareInt x y < 0 ↔ x < y := by unfold Lib.compareInt; split <;> (try split) <;> omega
theorem lt_M (x y : Mk) : Go.Proofs.ltOf cmpM x y = true ↔ mlt x y := by
  unfold Go.Proofs.ltOf cmpM mlt
  rw [decide_eq_true_iff]
  split
  · split
    · rw [cmpi_lt]; omega
    · rw [cmpi_lt]; omega
  · rw [cmpi_lt]; omega
theorem lt_Mf (x y : Mk) : Go.Proofs.ltOf cmpM x y = false ↔ ¬ mlt x y := by
  rw [← lt_M]
  simp
theorem swo_M : SWO (Go.Proofs.ltOf cmpM) where
  irrefl x := (lt_Mf x x).2 (mlt_irrefl x)
  trans x y z h1 h2 := (lt_M x z).2 (mlt_trans ((lt_M x y).1 h1) ((lt_M y z).1 h2))
  ntrans x y z h1 h2 := by
    rw [lt_Mf] at *
    unfold mlt at *
    omega

theorem grown2 (w : World) (a b : Obj) : ((w.alloc a).alloc b).drew = grow (w.drewN 1) #[a, b] := by
  rw [alloc_eq_grow, alloc_eq_grow, grow_grow]
  rfl
theorem grow_then {w : World} {os : Array Obj} (q : Nat) (os' : Array Obj) : grow ((grow w os).drewN q) os' = grow (w.drewN q) (os ++ os') := by
  unfold grow
  simp [World.drewN, Array.append_assoc]
def OrdR (w : World) (r : Int) (e : Ending) (w' : World) : Prop := e = .returned (.int .i64 r) ∧ ∃ q os, w' = grow (w.drewN q) os
set_option maxHeartbeats 4000000 in
set_option maxRecDepth 100000 in
theorem order_any (x y : Mk) (w : World) : Calls Try.prog 21 #[.agg #[.int .i64 x.tm, .int .i64 x.bk, .int .i64 x.o], .agg #[.int .i64 y.tm, .int .i64 y.bk, .int .i64 y.o]] w (OrdR w (cmpM x y)) := by
  obtain ⟨W2, hW2, B1, B2, HG⟩ : ∃ W2, (w.alloc (.cells #[.int .i64 x.tm, .int .i64 x.bk, .int .i64 x.o] 57)).alloc (.cells #[.int .i64 y.tm, .int .i64 y.bk, .int .i64 y.o] 57) = W2 ∧ Blk W2 w.heap.size 57 #[.int .i64 x.tm, .int .i64 x.bk, .int .i64 x.o] ∧ Blk W2 (w.heap.size + 1) 57 #[.int .i64 y.tm, .int .i64 y.bk, .int .i64 y.o] ∧ Hid (∃ os, W2.drew = grow (w.drewN 1) os) := ⟨_, rfl, (Blk.new _ _ _).alloc _, by have := Blk.new (w.alloc (.cells #[.int .i64 x.tm, .int .i64 x.bk, .int .i64 x.o] 57)) 57 #[.int .i64 y.tm, .int .i64 y.bk, .int .i64 y.o]; rwa [World.size_alloc] at this, ⟨_, grown2 _ _ _⟩⟩
  have hx : ∀ j, j < 3 → W2.drew.cell? ⟨w.heap.size, j, none⟩ = some (.int .i64 (xs3 x j)) := fun j hj => by
    rcases (by omega : j = 0 ∨ j = 1 ∨ j = 2) with rfl | rfl | rfl
    · exact B1.drew.cell 0
    · exact B1.drew.cell 1
    · exact B1.drew.cell 2
  have hy : ∀ j, j < 3 → W2.drew.cell? ⟨w.heap.size + 1, j, none⟩ = some (.int .i64 (xs3 y j)) := fun j hj => by
    rcases (by omega : j = 0 ∨ j = 1 ∨ j = 2) with rfl | rfl | rfl
    · exact B2.drew.cell 0
    · exact B2.drew.cell 1
    · exact B2.drew.cell 2
  have hC := compare_any (c := 3) (d := 3) hx hy
  have c0 : W2.cell? ⟨w.heap.size, 0, none⟩ = some (.int .i64 x.tm) := B1.cell 0
  have c1 : W2.cell? ⟨w.heap.size + 1, 0, none⟩ = some (.int .i64 y.tm) := B2.cell 0
  have HC := Lib.hid hC
  clear hx hy hC
  go_enter Try.func21, Try.ntmps21
  go_upto_region 1 with (fail)
  have hX := @Ext.cell W2
  have hzz0 := block_lt_of_cell c0
  have hzz1 := block_lt_of_cell c1
  refine wp_region_noPanic ?_
  refine wp_region_plan (fun w' => ∃ x : Ext W2, w' = x.w) [([0, 1], 2)] [3] (by kernel_rfl) (by kernel_rfl) (by kernel_rfl) (fun _ _ _ _ _ h => h) ⟨⟨_, (brefl W2).drew⟩, rfl⟩ ?_
  refine wpPlan_cons ?_
  simp only [pickOps, List.getElem?_cons_succ, List.getElem?_cons_zero, Option.elim_some]
  repeat (go_big_quiet_step (fail))
  refine wpQuiet_nil ?_
  refine planAct_some (fun K hK => ?_)
  go_simp
  refine (HC.out).mono ?_
  rintro e w3 ⟨r, hr, rfl, rfl⟩
  go_wp2_with fail
  refine hK.out _ _ ⟨⟨_, (brefl W2).drew⟩, rfl⟩ ?_
  clear hK K
  refine wpPlan_last ?_
  simp only [pickOps, List.getElem?_cons_succ, List.getElem?_cons_zero, Option.elim_some]
  repeat (go_big_quiet_step (fail))
  refine wpQuiet_nil ?_
  refine NoPanic.normal ?_
  clear hX hzz0 hzz1
  go_wp2_with fail
  go_ret
  obtain ⟨os, hos⟩ := HG.out
  exact ⟨by rw [cmpAt_M hr]; rfl, 1, os, hos⟩
def mkc (x : Mk) : List Value := .int .i64 x.tm :: .int .i64 x.bk :: .int .i64 x.o :: evc x.e
theorem mkc_len (x : Mk) : (mkc x).length = 18 := rfl
theorem mkc_one (x : Mk) : ∀ v ∈ mkc x, v.oneCell' = true := by
  intro v hv
  unfold mkc evc at hv
  simp only [List.mem_cons, List.not_mem_nil, or_false] at hv
  rcases hv with h | h | h | h | h | h | h | h | h | h | h | h | h | h | h | h | h | h <;> subst h <;> rfl
set_option maxHeartbeats 4000000 in
set_option maxRecDepth 100000 in
theorem closure_any (x y : Mk) (w : World) : Calls Try.prog 20 #[.agg (mkc x).toArray, .agg (mkc y).toArray] w (OrdR w (cmpM x y)) := by
  obtain ⟨W2, hW2, B1, B2, HG⟩ : ∃ W2, (w.alloc (.cells (mkc x).toArray 54)).alloc (.cells (mkc y).toArray 54) = W2 ∧ Blk W2 w.heap.size 54 (mkc x).toArray ∧ Blk W2 (w.heap.size + 1) 54 (mkc y).toArray ∧ Hid (∃ os, W2 = grow w os) := ⟨_, rfl, (Blk.new _ _ _).alloc _, by have := Blk.new (w.alloc (.cells (mkc x).toArray 54)) 54 (mkc y).toArray; rwa [World.size_alloc] at this, ⟨_, by rw [alloc_eq_grow, alloc_eq_grow, grow_grow]⟩⟩
  have c0 : W2.cell? ⟨w.heap.size, 0, none⟩ = some (.int .i64 x.tm) := B1.cell 0
  have c1 : W2.cell? ⟨w.heap.size, 1, none⟩ = some (.int .i64 x.bk) := B1.cell 1
  have c2 : W2.cell? ⟨w.heap.size, 2, none⟩ = some (.int .i64 x.o) := B1.cell 2
  have d0 : W2.cell? ⟨w.heap.size + 1, 0, none⟩ = some (.int .i64 y.tm) := B2.cell 0
  have d1 : W2.cell? ⟨w.heap.size + 1, 1, none⟩ = some (.int .i64 y.bk) := B2.cell 1
  have d2 : W2.cell? ⟨w.heap.size + 1, 2, none⟩ = some (.int .i64 y.o) := B2.cell 2
  have z1 := B1.lt
  have z2 := B2.lt
  have HC := Lib.hid (order_any x y W2)
  generalize mkc x = mx at *
  generalize mkc y = my at *
  go_enter Try.func20, Try.ntmps20
  go_upto_region 1 with (fail)
  go_wp2_with (go_at_call 21; refine HC.out.mono ?_; rintro e w2 ⟨rfl, q, os, rfl⟩)
  go_ret
  obtain ⟨os0, h0⟩ := HG.out
  exact ⟨rfl, q, os0 ++ os, by rw [h0, grow_then]⟩
instance instInhabitedMk : Inhabited Mk := ⟨⟨0, 0, 0, ⟨0, false, cv0, av0⟩⟩⟩
theorem cmplays (blk off size : Nat) (w : World) : Go.Proofs.CmpLays Try.prog 20 #[] mkc 18 cmpM blk off size w :=
  fun _ _ _ _ x y => closure_any x y _
end Go.Proofs.Ytkcilmnmbfbogaa
