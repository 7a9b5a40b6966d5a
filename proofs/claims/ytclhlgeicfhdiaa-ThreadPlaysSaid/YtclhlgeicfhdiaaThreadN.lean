/- Threads: whether both tell the same. -/
import Derived.Test.YtclhlgeicfhdiaaThreadK
import Derived.Test.YtclhlgeicfhdiaaPlanR
import Derived.Test.YtclhlgeicfhdiaaArrEq
namespace Go.Proofs.Ytclhlgeicfhdiaa
set_option linter.unusedVariables false
set_option linter.unusedSimpArgs false
open Go.RowKit

theorem size_u (w : World) : (sizeOf 33).run Try.prog w = .ok 1 w := by rfl
theorem arr8u (d : Nat) (xs ys : Array Value) (w : World) : (Op.equalIn (d + 1) 42 (.agg xs) (.agg ys)).run Try.prog w = (eqElems d 33 1 xs ys [0, 1, 2, 3, 4, 5, 6, 7]).run Try.prog w :=
  run_equalIn_array w d 42 33 8 1 xs ys Try.underlying42 size_u
theorem arr16u (d : Nat) (xs ys : Array Value) (w : World) : (Op.equalIn (d + 1) 38 (.agg xs) (.agg ys)).run Try.prog w = (eqElems d 33 1 xs ys [0, 1, 2, 3, 4, 5, 6, 7, 8, 9, 10, 11, 12, 13, 14, 15]).run Try.prog w :=
  run_equalIn_array w d 38 33 16 1 xs ys Try.underlying38 size_u
set_option maxHeartbeats 4000000 in
set_option maxRecDepth 100000 in
theorem neT (l : List Int) (h : l.length = 8) (w : World) : (binOp .neq 42 (.agg (l.map uc).toArray) (.agg (l.map uc).toArray)).run Try.prog w = .ok (.bool false) w := by
  obtain ⟨a0, a1, a2, a3, a4, a5, a6, a7, rfl⟩ := len8 h
  simp [go_sem, arr8u, eqElems, uc]
set_option maxHeartbeats 4000000 in
set_option maxRecDepth 100000 in
theorem eqF (f : Fr) (h : f.r.length = 16) (w : World) : (binOp .eql 55 (.agg (frc f).toArray) (.agg (frc f).toArray)).run Try.prog w = .ok (.bool true) w := by
  obtain ⟨fn, at_, r⟩ := f
  obtain ⟨a0, a1, a2, a3, a4, a5, a6, a7, a8, a9, a10, a11, a12, a13, a14, a15, rfl⟩ := len16 h
  simp [go_sem, arr16u, eqElems, uc, frc]
theorem tvc_8 {told : List Int} (h : told.length = 8) (F H : Value) : (tvc told F H)[8]? = some F ∧ (tvc told F H)[9]? = some H := by
  obtain ⟨a0, a1, a2, a3, a4, a5, a6, a7, rfl⟩ := len8 h
  exact ⟨rfl, rfl⟩
theorem range_told {w : World} {g : Nat} {t : TypeId} {told : List Int} {r : List Value} (h : Blk w g t (told.map uc ++ r).toArray) : w.rangeAt g 0 (told.map uc) := fun j v hj => by
  rw [Nat.zero_add, h.cell, List.getElem?_toArray, List.getElem?_append_left (List.getElem?_eq_some_iff.1 hj).1]
  exact hj
theorem range_all {w : World} {g : Nat} {t : TypeId} {l : List Value} (h : Blk w g t l.toArray) : w.rangeAt g 0 l := fun j v hj => by
  rw [Nat.zero_add, h.cell, List.getElem?_toArray]
  exact hj
theorem range_fr {w : World} {b o : Nat} {n c : Nat} {l : List Fr} (h : Sl frc w (some ⟨b, o, none⟩) n c l) (h16 : ∀ f, f ∈ l → f.r.length = 16) {i : Nat} {f : Fr} (hi : l[i]? = some f) : w.rangeAt b (o + i * 18) (frc f) := fun j v hj => by
  have hl18 : ∀ y, y ∈ l → (frc y).length = 18 := fun y hy => by simp [frc, h16 y hy]
  have hg : (l.flatMap frc)[i * 18 + j]? = some v := by
    clear h
    induction l generalizing i with
    | nil => simp at hi
    | cons y r ih =>
      rw [List.flatMap_cons]
      have hy := hl18 y (List.mem_cons_self ..)
      cases i with
      | zero =>
        have : y = f := by simpa using hi
        subst this
        rw [Nat.zero_mul, Nat.zero_add, List.getElem?_append_left (List.getElem?_eq_some_iff.1 hj).1]
        exact hj
      | succ i =>
        rw [List.getElem?_append_right (by rw [hy]; omega), hy, show (i + 1) * 18 + j - 18 = i * 18 + j by omega]
        exact ih (fun f hf => h16 f (List.mem_cons_of_mem _ hf)) (by simpa using hi) (fun z hz => hl18 z (List.mem_cons_of_mem _ hz))
  have := h.rd.some_ _ _ hg
  have e : ((⟨b, o, none⟩ : Addr).add (i * 18 + j)) = ⟨b, o + i * 18 + j, none⟩ := by rw [Addr.add_mid, Nat.add_assoc]
  rw [← e]
  exact this
theorem sl_some {α : Type} {f : α → List Value} {w : World} {A : Option Addr} {n c : Nat} {l : List α} (h : Sl f w A n c l) (hn : 0 < n) (hne : ∀ x, x ∈ l → f x ≠ []) : ∃ b o, A = some ⟨b, o, none⟩ := by
  cases l with
  | nil => have := h.len; simp at this; omega
  | cons x r =>
    cases hx : f x with
    | nil => exact absurd hx (hne x (List.mem_cons_self ..))
    | cons u us =>
      obtain ⟨ad, hA, hc⟩ := h.rd 0 u (by rw [List.flatMap_cons, hx]; rfl)
      obtain ⟨b, o, sp⟩ := ad
      have hsp : sp = none := by simpa [Addr.add] using World.cell?_spot hc
      subst hsp
      exact ⟨b, o, hA⟩
set_option maxHeartbeats 4000000 in
set_option maxRecDepth 100000 in
theorem same_w {w : World} {base p : Nat} {t : Th} {L : TL} (h : TBox w base p t L) {FA HB : Option Addr} {fc hd : Nat} (hF : Sl frc w FA t.frames.length fc t.frames) (hH : Sl us w HB t.hs.length hd t.hs) (hl : t.frames.length ≤ 1000) (hl2 : t.hs.length ≤ 1000) (n : Int) (b1 : Bool) (hb1 : (n != 0) = b1) (hb2 : (IntKind.u64.wrap n != 0) = b1) :
    Calls Try.prog 17 #[.pointer (some ⟨p, 0, none⟩), .agg (tvc t.told (.slice FA t.frames.length fc) (.slice HB t.hs.length hd)), .int .i64 n] w fun e w' => e = .returned (.bool true) ∧ Below w.heap.size w w' := by
  have hne := neT t.told h.t8
  go_enter Try.func17, Try.ntmps17
  go_upto_region 1 with (fail)
  obtain ⟨W0, hW0, hP, h0, hF0, hH0, kb⟩ : ∃ W0, w.alloc (.cells (tvc t.told (.slice FA t.frames.length fc) (.slice HB t.hs.length hd)) 49) = W0 ∧ Blk W0 w.heap.size 49 (tvc t.told (.slice FA t.frames.length fc) (.slice HB t.hs.length hd)) ∧ TBox W0 base p t L ∧ Sl frc W0 FA t.frames.length fc t.frames ∧ Sl us W0 HB t.hs.length hd t.hs ∧ Below w.heap.size w W0 :=
    ⟨_, rfl, Blk.new _ _ _, h.below (bnew (brefl w) _), hF.alloc _, hH.alloc _, bnew (brefl w) _⟩
  rw [hW0]
  clear hW0 h hF hH
  have ht8 := h0.t8
  have q8 : W0.cell? ⟨w.heap.size, 8, none⟩ = some (.slice FA t.frames.length fc) := (hP.cell 8).trans (tvc_8 ht8 _ _).1
  have q9 : W0.cell? ⟨w.heap.size, 9, none⟩ = some (.slice HB t.hs.length hd) := (hP.cell 9).trans (tvc_8 ht8 _ _).2
  have hzP := hP.lt
  go_upto_region 2 with (fail)
  go_cut [19] (fun v w' => v = .bool (decide (1 ≤ n ∧ n ≤ (t.hs.length : Int))) ∧ w' = W0)
  case first =>
    clear hb1 hb2 hne
    by_cases h1 : n < 1
    · have HE : Hid (decide (1 ≤ n ∧ n ≤ (t.hs.length : Int)) = false) := decide_eq_false (by omega)
      have t1 : ¬ (1 ≤ n) := by omega
      go_wp2_with fail
      go_meet
      case rel => exact ⟨by rw [HE.out], rfl⟩
    · by_cases h2 : (t.hs.length : Int) < n
      · have HE : Hid (decide (1 ≤ n ∧ n ≤ (t.hs.length : Int)) = false) := decide_eq_false (by omega)
        have t1 : 1 ≤ n := by omega
        have t2 : ¬ (n ≤ (t.hs.length : Int)) := by omega
        go_wp2_with fail
        go_meet
        case rel => exact ⟨by rw [HE.out], rfl⟩
      · have HE : Hid (decide (1 ≤ n ∧ n ≤ (t.hs.length : Int)) = true) := decide_eq_true (by omega)
        have t1 : 1 ≤ n := by omega
        have t2 : n ≤ (t.hs.length : Int) := by omega
        go_wp2_with fail
        go_meet
        case rel => exact ⟨by rw [HE.out], rfl⟩
  case rest =>
  obtain ⟨rfl, rfl⟩ := hcut
  go_upto_if 19 with (fail)
  go_cut [7] (fun v w' => v = .int .u64 (hAt t.hs n) ∧ w' = wc)
  case first =>
    clear hb1 hb2 hne
    by_cases h1 : 1 ≤ n ∧ n ≤ (t.hs.length : Int)
    · have t0 : decide (1 ≤ n ∧ n ≤ (t.hs.length : Int)) = true := decide_eq_true h1
      rw [t0]
      obtain ⟨j, hj⟩ : ∃ j : Nat, n = (j : Int) + 1 := ⟨(n - 1).toNat, by omega⟩
      subst hj
      obtain ⟨b, o', rfl, hbs, hc⟩ := hH0.base us_len (by decide) (by omega)
      obtain ⟨x, hx⟩ : ∃ x, t.hs[j]? = some x := ⟨t.hs[j]'(by omega), List.getElem?_eq_getElem (i := j) _⟩
      have c0 : wc.cell? ⟨b, o' + j, none⟩ = some (.int .u64 x) := by have h0 := hc j x 0 _ hx rfl; simpa using h0
      have HE : Hid (hAt t.hs ((j : Int) + 1) = x) := by
        unfold Hid hAt
        rw [if_pos (by omega), show ((j : Int) + 1 - 1).toNat = j by omega, hx]
        rfl
      have bb0 : (0 : Int) ≤ (j : Int) := by omega
      have bb1 : (j : Int) < (t.hs.length : Int) := by omega
      clear hx hc t0 h1
      go_wp2_with fail
      go_meet
      case rel => exact ⟨by rw [HE.out], rfl⟩
    · have t0 : decide (1 ≤ n ∧ n ≤ (t.hs.length : Int)) = false := decide_eq_false h1
      rw [t0]
      have HE : Hid (hAt t.hs n = 0) := if_neg h1
      clear t0 h1
      go_wp2_with fail
      go_meet
      case rel => exact ⟨by rw [HE.out], rfl⟩
  case rest =>
  obtain ⟨rfl, rfl⟩ := hcut
  go_wp2_with fail
  go_loopg [8, 9] t.hs.length (fun gk b i wr => ∃ k : Nat, k + gk = t.hs.length ∧ i = .int .i64 k ∧ b = .bool (decide (IntKind.u64.wrap n ∈ t.hs.take k)) ∧ wr = wc)
  case atStart => exact ⟨0, by omega, rfl, by simp, rfl⟩
  case round =>
    obtain ⟨k, hk, rfl, rfl, rfl⟩ := hrel
    by_cases hlt : k < t.hs.length
    · obtain ⟨b, o', rfl, hbs, hc⟩ := hH0.base us_len (by decide) (by omega)
      obtain ⟨x, hx⟩ : ∃ x, t.hs[k]? = some x := ⟨t.hs[k]'hlt, List.getElem?_eq_getElem (i := k) _⟩
      have c0 : wr.cell? ⟨b, o' + k, none⟩ = some (.int .u64 x) := by have h0 := hc k x 0 _ hx rfl; simpa using h0
      have HS : Hid (t.hs.take (k + 1) = t.hs.take k ++ [x]) := by rw [Hid, List.take_add_one, hx]; rfl
      have b0 : (0 : Int) ≤ (k : Int) := by omega
      have bb1 : (k : Int) < (t.hs.length : Int) := by omega
      clear hx hc hb1 hb2 hne hP h0 hF0 hH0 q8
      generalize hd1 : decide (IntKind.u64.wrap n ∈ t.hs.take k) = d
      have HD := Lib.hid hd1
      clear hd1
      have hd2 : (x == IntKind.u64.wrap n) = decide (x = IntKind.u64.wrap n) := by rfl
      cases d
      · by_cases hxn : x = IntKind.u64.wrap n
        · have t0 : (x == IntKind.u64.wrap n) = true := by simpa using hxn
          have HX := Lib.hid hxn
          clear hxn hd2
          go_wp2_with fail
          go_roundg (gk - 1)
          case measure => omega
          case rel => exact ⟨k + 1, by omega, by go_num, by rw [HS.out, ← HX.out]; simp, rfl⟩
        · have t0 : (x == IntKind.u64.wrap n) = false := by simpa using hxn
          have HX := Lib.hid hxn
          clear hxn hd2
          go_wp2_with fail
          go_roundg (gk - 1)
          case measure => omega
          case rel => exact ⟨k + 1, by omega, by go_num, by have h1 := of_decide_eq_false HD.out; rw [HS.out]; simp only [List.mem_append, List.mem_singleton]; rw [decide_eq_false]; intro q; rcases q with q | q; exact h1 q; exact HX.out q.symm, rfl⟩
      · clear hd2
        go_wp2_with fail
        go_roundg (gk - 1)
        case measure => omega
        case rel => exact ⟨k + 1, by omega, by go_num, by have h1 := of_decide_eq_true HD.out; rw [HS.out, decide_eq_true (List.mem_append.2 (.inl h1))], rfl⟩
    · have hge : ¬ ((k : Int) < (t.hs.length : Int)) := by omega
      have hnoted := fun (W : World) (h : TBox W base p t L) => noted_any h (IntKind.u64.wrap n) (by omega)
      have hhandle := fun (W : World) (h : TBox W base p t L) => handle_any h n (by omega)
      have htk : t.hs.take k = t.hs := List.take_of_length_le (by omega)
      rw [htk]
      rw [hb2] at hnoted
      generalize decide (IntKind.u64.wrap n ∈ t.hs) = d at *
      generalize hAt t.hs n = hn at *
      clear htk hk hlt
      obtain ⟨W1, rfl⟩ : ∃ W1, W1 = wr := ⟨_, rfl⟩
      have hx1 : W1.rangeAt p 0 (t.told.map uc) := by have := h0.blk; unfold thc at this; exact range_told this
      have hx2 : W1.rangeAt w.heap.size 0 (t.told.map uc) := range_told hP
      go_upto_region 9 with (fail)
      go_cut [81] (fun v w' => v = .bool false ∧ Below W1.heap.size W1 w')
      have tn : (hn != hn) = false := by simp
      have hT8 : (Try.prog.info? 42).map (·.size) = some (t.told.map uc).length := by rw [List.length_map, ht8]; kernel_rfl
      clear ht8
      case first =>
        cases b1 <;> cases d
        all_goals
          have hX := @Ext.cell W1
          have hzz0 := block_lt_of_cell q8
          have hzz1 := block_lt_of_cell q9
          refine wp_region_noPanic ?_
          refine wp_region_plan (fun w' => ∃ x : Ext W1, w' = x.w) [([0, 1, 2, 3, 7, 8], 4), ([5, 6, 9, 10, 11, 12, 14, 15, 16], 13), ([17, 18, 19, 20, 21, 23], 22), ([24, 25, 26, 27, 28, 29, 31], 30)] [32, 33, 34, 35, 36, 37] (by kernel_rfl) (by kernel_rfl) (by kernel_rfl) (fun _ _ _ _ _ h => h) ⟨⟨_, (brefl W1).drew⟩, rfl⟩ ?_
          refine wpPlan_cons ?_
          simp only [pickOps, List.getElem?_cons_succ, List.getElem?_cons_zero, Option.elim_some]
          go_big_quiet_step (fail)
          go_big_quiet_step (fail)
          go_big_quiet_step (fail)
          go_big_quiet_step (fail)
          go_big_quiet_step (fail)
          refine wpQuiet_load_mid rfl 42 (.tmp 51) rfl w.heap.size 0 rfl (t.told.map uc) _ (range_ext hx2) Try.underlying42 rfl hT8 ?_; simp only [Act.put, List.setIfInBounds_toArray, List.set_cons_succ, List.set_cons_zero]
          refine wpQuiet_nil ?_
          refine planAct_some (fun K hK => ?_)
          go_simp
          refine hK.out _ _ ⟨⟨_, (brefl W1).drew⟩, rfl⟩ ?_
          clear hK K
          refine wpPlan_cons ?_
          simp only [pickOps, List.getElem?_cons_succ, List.getElem?_cons_zero, Option.elim_some]
          go_big_quiet_step (fail)
          refine wpQuiet_load_mid rfl 42 (.tmp 49) rfl p 0 rfl (t.told.map uc) _ (range_ext hx1) Try.underlying42 rfl hT8 ?_; simp only [Act.put, List.setIfInBounds_toArray, List.set_cons_succ, List.set_cons_zero]
          go_big_quiet_step (fail)
          go_big_quiet_step (fail)
          go_big_quiet_step (fail)
          go_big_quiet_step (fail)
          go_big_quiet_step (fail)
          go_big_quiet_step (fail)
          go_big_quiet_step (fail)
          refine wpQuiet_nil ?_
          refine planAct_some (fun K hK => ?_)
          go_simp
          refine (deep_any (h0.below (brefl W1).drew)).mono ?_
          rintro e wa ⟨rfl, rfl⟩
          go_wp2_with fail
          refine hK.out _ _ ⟨⟨_, ((brefl W1).drew)⟩, rfl⟩ ?_
          clear hK K
          refine wpPlan_cons ?_
          simp only [pickOps, List.getElem?_cons_succ, List.getElem?_cons_zero, Option.elim_some]
          repeat (go_big_quiet_step (fail))
          refine wpQuiet_nil ?_
          refine planAct_some (fun K hK => ?_)
          go_simp
          refine (hhandle _ (h0.below (brefl W1).drew)).mono ?_
          rintro e wb ⟨rfl, rfl⟩
          go_wp2_with fail
          refine hK.out _ _ ⟨⟨_, ((brefl W1).drew)⟩, rfl⟩ ?_
          clear hK K
          refine wpPlan_cons ?_
          simp only [pickOps, List.getElem?_cons_succ, List.getElem?_cons_zero, Option.elim_some]
          repeat (go_big_quiet_step (fail))
          refine wpQuiet_nil ?_
          refine planAct_some (fun K hK => ?_)
          go_simp
          refine (hnoted _ (h0.below (brefl W1).drew)).mono ?_
          rintro e wd ⟨rfl, rfl⟩
          go_wp2_with fail
          refine hK.out _ _ ⟨⟨_, ((brefl W1).drew)⟩, rfl⟩ ?_
          clear hK K
          refine wpPlan_last ?_
          simp only [pickOps, List.getElem?_cons_succ, List.getElem?_cons_zero, Option.elim_some]
          repeat (go_big_quiet_step (fail))
          refine wpQuiet_nil ?_
          refine NoPanic.normal ?_
          clear hX hzz0 hzz1
          go_wp2_with fail
          go_meet
          case rel => exact ⟨rfl, (brefl W1).drew⟩
      case rest =>
      obtain ⟨rfl, hcut⟩ := hcut
      have h0 := h0.below hcut
      have hF0 := hF0.below hcut
      have q8 := keep_below q8 hcut
      have kb := bnext kb hcut
      clear hne hx1 hx2 hnoted hhandle hH0 hP q9 hb1 hb2 hzP
      rcases Nat.eq_zero_or_pos t.frames.length with hz | hz
      · have htop := top_none h0 (List.eq_nil_of_length_eq_zero hz)
        have HZ := Lib.hid hz
        rw [hz] at q8
        clear hz h0 hF0
        go_wp2_with (go_at_call 13; refine htop.mono ?_; rintro e w2 ⟨rfl, rfl⟩)
        go_ret
        exact ⟨rfl, kb⟩
      · obtain ⟨m, hm⟩ : ∃ m, t.frames.length = m + 1 := ⟨t.frames.length - 1, by omega⟩
        obtain ⟨f, hf⟩ : ∃ f, t.frames[m]? = some f := ⟨t.frames[m]'(by omega), List.getElem?_eq_getElem (i := m) _⟩
        obtain ⟨q, hq, hbq⟩ := h0.fr m f hf
        have htop := top_some h0 hm hq (by omega)
        have hr16 := h0.r16
        obtain ⟨b, o', hFA⟩ := sl_some hF0 (by omega) (fun x _ => by simp [frc])
        subst hFA
        have hx3 := range_fr hF0 hr16 hf
        have hx4 := range_all hbq
        have heq := eqF f (hr16 f (List.mem_of_getElem? hf))
        have hl18 : (frc f).length = 18 := by simp [frc, hr16 f (List.mem_of_getElem? hf)]
        have hF18 : (Try.prog.info? 40).map (·.size) = some (frc f).length := by rw [hl18]; kernel_rfl
        have hR18 : (Try.prog.info? 55).map (·.size) = some (frc f).length := by rw [hl18]; kernel_rfl
        rw [hm] at q8
        have tz : (((m + 1 : Nat) : Int) == 0) = false := by simp; omega
        have tz2 : (((m : Int) + 1) == 0) = false := by simp; omega
        have hwm : IntKind.i64.wrap ((m : Nat) : Int) = (m : Int) := IntWalk.i64_in _ (by omega)
        have hm0 : (0 : Int) ≤ (m : Int) := by omega
        have hm1 : (m : Int) < ((m + 1 : Nat) : Int) := by omega
        have hm2 : (m : Int) < (m : Int) + 1 := by omega
        clear hl18 hr16 hq hf hm hbq h0 hF0 hz
        generalize frc f = fc' at *
        go_wp2_with (go_at_call 13; refine htop.mono ?_; rintro e w2 ⟨rfl, rfl⟩)
        obtain ⟨W5, rfl⟩ : ∃ W5, W5 = wc := ⟨_, rfl⟩
        have hX := @Ext.cell W5
        have hzz0 := block_lt_of_cell q8
        refine wp_region_noPanic ?_
        refine wp_region_plan (fun w' => ∃ x : Ext W5, w' = x.w) [([0, 1, 2, 3, 6, 7, 8, 9, 10, 11, 12, 13], 4)] [5, 14, 15, 16] (by kernel_rfl) (by kernel_rfl) (by kernel_rfl) (fun _ _ _ _ _ h => h) ⟨⟨_, (brefl W5).drew⟩, rfl⟩ ?_
        refine wpPlan_cons ?_
        simp only [pickOps, List.getElem?_cons_succ, List.getElem?_cons_zero, Option.elim_some]
        go_big_quiet_step (fail)
        go_big_quiet_step (fail)
        go_big_quiet_step (fail)
        go_big_quiet_step (fail)
        go_big_quiet_step (fail)
        go_big_quiet_step (fail)
        go_big_quiet_step (fail)
        go_big_quiet_step (fail)
        go_big_quiet_step (fail)
        go_big_quiet_step (fail)
        go_big_quiet_step (fail)
        refine wpQuiet_load_mid rfl 55 (.tmp 102) rfl b (o' + m * 18) rfl fc' _ (range_ext hx3) Try.underlying55 rfl hR18 ?_; simp only [Act.put, List.setIfInBounds_toArray, List.set_cons_succ, List.set_cons_zero]
        refine wpQuiet_nil ?_
        refine planAct_some (fun K hK => ?_)
        go_simp
        refine hK.out _ _ ⟨⟨_, (brefl W5).drew⟩, rfl⟩ ?_
        clear hK K
        refine wpPlan_last ?_
        simp only [pickOps, List.getElem?_cons_succ, List.getElem?_cons_zero, Option.elim_some]
        refine wpQuiet_load_mid rfl 40 (.tmp 94) rfl q 0 rfl fc' _ (range_ext hx4) Try.underlying40 rfl hF18 ?_; simp only [Act.put, List.setIfInBounds_toArray, List.set_cons_succ, List.set_cons_zero]
        go_big_quiet_step (fail)
        go_big_quiet_step (fail)
        go_big_quiet_step (fail)
        refine wpQuiet_nil ?_
        refine NoPanic.normal ?_
        clear hX hzz0
        go_wp2
        go_ret
        exact ⟨rfl, kb.drew⟩
end Go.Proofs.Ytclhlgeicfhdiaa
