/- Histories: the chapter's example; the law HistOpers. -/
import Derived.Test.YtkcilmnmbfbogaaHistH
namespace Go.Proofs.Ytkcilmnmbfbogaa
set_option linter.unusedVariables false
set_option linter.unusedSimpArgs false
open Go.RowKit

def opsOf (l : List Ev) : List Opp := if mayB l = true then opersR l 0 else []
theorem opsOf_le (l : List Ev) : (opsOf l).length ≤ l.length := by
  unfold opsOf
  split
  · exact opers_le l
  · exact Nat.zero_le _
theorem opers_all {w : World} {A : Option Addr} {n c : Nat} {l : List Ev} (h : Sl evc w A n c l) (hn : n ≤ 100000) : Calls Try.prog 7 #[.slice A n c] w fun r w' => ∃ A' c', r = .returned (.slice A' (opsOf l).length c') ∧ w'.ownsRow w.heap.size 39 16 (.slice A' (opsOf l).length c') (opsOf l).length ((opsOf l).flatMap opc) ∧ Below w.heap.size w w' := by
  by_cases hm : mayB l = true
  · have := opers_yes h hn hm
    unfold opsOf
    rw [if_pos hm]
    exact this
  · refine (opers_no h hn (by simpa using hm)).mono ?_
    rintro r w' ⟨rfl, hb⟩
    unfold opsOf
    rw [if_neg hm]
    exact ⟨none, 0, rfl, World.ownsRow_nil _ _ _ _, hb⟩
theorem ropers_all {w : World} {A : Option Addr} {n c : Nat} {l : List Ev} (h : Sl evc w A n c l) (hn : n ≤ 100000) : Calls Try.prog 8 #[.slice A n c] w fun r w' => ∃ A' c', r = .returned (.slice A' (opsOf l).length c') ∧ w'.ownsRow w.heap.size 39 16 (.slice A' (opsOf l).length c') (opsOf l).length ((opsOf l).flatMap opc) ∧ Below w.heap.size w w' := by
  by_cases hm : mayB l = true
  · have := ropers_yes h hn hm
    unfold opsOf
    rw [if_pos hm]
    exact this
  · refine (ropers_no h hn (by simpa using hm)).mono ?_
    rintro r w' ⟨rfl, hb⟩
    unfold opsOf
    rw [if_neg hm]
    exact ⟨none, 0, rfl, World.ownsRow_nil _ _ _ _, hb⟩
/-- The chapter's example. -/
def lE : List Ev := [⟨0, false, cv0, av0⟩, ⟨1, false, cv0, av0⟩, ⟨0, true, cv0, av0⟩]
theorem lE_ops : opsOf lE = [⟨0, cv0, av0, 0, 2⟩, ⟨1, cv0, av0, 1, -1⟩] := rfl
set_option maxHeartbeats 4000000 in
set_option maxRecDepth 100000 in
theorem lives14 (w : World) : Calls Try.prog 6 #[] w fun e w' => e = .returned (.bool true) ∧ Below w.heap.size w w' := by
  have hs : ∀ w : World, Sl evc (w.alloc (.cells #[.int .i64 0, .bool false, .int .i64 0, .int .i64 0, .int .i64 0, .int .u64 0, .int .u64 0, .int .u64 0, .int .i64 0, .int .i64 0, .int .u64 0, .int .u64 0, .int .u64 0, .int .i64 0, .int .i64 0, .int .i64 1, .bool false, .int .i64 0, .int .i64 0, .int .i64 0, .int .u64 0, .int .u64 0, .int .u64 0, .int .i64 0, .int .i64 0, .int .u64 0, .int .u64 0, .int .u64 0, .int .i64 0, .int .i64 0, .int .i64 0, .bool true, .int .i64 0, .int .i64 0, .int .i64 0, .int .u64 0, .int .u64 0, .int .u64 0, .int .i64 0, .int .i64 0, .int .u64 0, .int .u64 0, .int .u64 0, .int .i64 0, .int .i64 0] 45)) (some ⟨w.heap.size, 0, none⟩) 3 3 lE := fun w => ⟨rfl, Nat.le_refl _, (Blk.new w 45 _).rd, fun q => by cases q⟩
  have hc := fun w => opers_all (hs w) (by decide)
  rw [lE_ops] at hc
  clear hs
  go_enter Try.func6, Try.ntmps6
  go_upto_region 2 with (go_at_call 7; refine (hc _).mono ?_; rintro e w1 ⟨A', c', rfl, own, hb1⟩)
  have kb := bnext (bnew (brefl w) _) hb1
  obtain ⟨g, rfl, hgw, hgz, hgf, hgc⟩ := own_formx own (by decide)
  have c15 : w1.cell? ⟨g, 15, none⟩ = some (.int .i64 2) := hgc 15 _ rfl
  have c30 : w1.cell? ⟨g, 30, none⟩ = some (.int .i64 1) := hgc 30 _ rfl
  have c31 : w1.cell? ⟨g, 31, none⟩ = some (.int .i64 (-1)) := hgc 31 _ rfl
  clear own hb1 hgc hgf hc
  go_wp2_with fail
  go_ret
  exact ⟨rfl, kb⟩
theorem openL_pre (l : List Opp) (k : Nat) : ∀ M, k ≤ M → ∃ r, openL l M = openL l k ++ r := by
  intro M hM
  induction M with
  | zero => obtain rfl : k = 0 := by omega
            exact ⟨[], by simp⟩
  | succ M ih =>
    by_cases hk : k = M + 1
    · subst hk; exact ⟨[], by simp⟩
    · obtain ⟨r, hr⟩ := ih (by omega)
      exact ⟨_, by rw [openL, hr, List.append_assoc]⟩
theorem openL_at {l : List Opp} {k M : Nat} {o : Opp} (hk : k < M) (ho : l[k]? = some o) (hf : o.fin < 0) : (openL l M)[(openL l k).length]? = some (k : Int) := by
  obtain ⟨r, hr⟩ := openL_pre l (k + 1) M (by omega)
  rw [hr, openL, ho]
  simp [hf]
theorem ic_len (x : Int) : (ic x).length = 1 := rfl
set_option maxHeartbeats 4000000 in
set_option maxRecDepth 100000 in
theorem histopers_long {w : World} {A : Option Addr} {n c : Nat} (hn : 200 < n) : Calls Try.prog 3 #[.slice A n c] w fun e w' => e = .returned (.bool true) ∧ Below w.heap.size w w' := by
  go_enter Try.func3, Try.ntmps3
  go_wp2_with (go_at_call 6; refine (lives14 _).mono ?_; rintro e w1 ⟨rfl, hb1⟩)
  go_ret
  exact ⟨rfl, hb1⟩
set_option maxHeartbeats 4000000 in
set_option maxRecDepth 100000 in
theorem histopers_any {w : World} {A : Option Addr} {n c : Nat} {l : List Ev} (h : Sl evc w A n c l) : Calls Try.prog 3 #[.slice A n c] w fun e w' => e = .returned (.bool true) ∧ Below w.heap.size w w' := by
  by_cases hn0 : 200 < n
  · exact histopers_long hn0
  have hn : n ≤ 200 := by omega
  have hn1 : ¬ ((200 : Int) < (n : Int)) := by omega
  have hlen := h.len
  have hM := opsOf_le l
  rw [hlen] at hM
  clear hn0 hlen
  go_enter Try.func3, Try.ntmps3
  go_upto_region 4 with (go_at_call 7; refine (opers_all h (by omega)).mono ?_; rintro e w1 ⟨A1, k1, rfl, own1, hb1⟩)
  have h1 := h.below hb1
  have s1 := Sl.of_own opc_len (by decide) own1
  go_upto_region 5 with (go_at_call 8; refine (ropers_all h1 (by omega)).mono ?_; rintro e w2 ⟨A2, k2, rfl, own2, hb2⟩)
  have h2 := h1.below hb2
  have s1 := s1.below hb2
  have s2 := Sl.of_own opc_len (by decide) own2
  have kb2 := bnext hb1 hb2
  clear own1 own2 h1 h
  have hm1 := may_any h2 (by omega)
  have hm2 := fun (W : World) (hW : Below w2.heap.size w2 W) => rmay_any (h2.below hW) (by omega)
  have hm3 := fun (W : World) (hW : Below w2.heap.size w2 W) => opersame_eq (s1.below hW) (s2.below hW) (by omega)
  generalize mayB l = mb at *
  go_upto_region 7 with (first | (go_at_call 9; refine hm1.mono ?_; rintro e w3 ⟨rfl, hb3⟩) | (go_at_call 10; refine (hm2 _ hb3).mono ?_; rintro e w4 ⟨rfl, hb4'⟩; have hb4 := bnext hb3 hb4'; clear hb4') | (go_at_call 11; refine (hm3 _ hb4).mono ?_; rintro e w5 ⟨rfl, hb5'⟩; have hb5 := bnext hb4 hb5'; clear hb5'))
  have s5 := s2.below hb5
  have kb5 := bnext kb2 hb5
  clear hm1 hm2 hm3 s1 s2 h2 hb3 hb4 hb5 hb1 hb2 kb2 hn1
  generalize opsOf l = O at *
  generalize hMO : O.length = M at *
  clear hMO
  have hop := open_any s5 (by omega)
  go_upto_region 8 with (go_at_call 12; refine hop.mono ?_; rintro e w6 ⟨A6, k6, rfl, own6, hb6⟩)
  have s6 := s5.below hb6
  have kb6 := bnext kb5 hb6
  have so := Sl.of_own ic_len (by decide) own6
  clear hop s5 hb6 own6 kb5
  have hL := openL_len O M
  generalize hLg : (openL O M).length = L at *
  have HLG := Lib.hid hLg
  clear hLg
  obtain ⟨W2, rfl⟩ : ∃ W2, W2 = w6 := ⟨_, rfl⟩
  go_wp2_with fail
  go_loopg [6, 7] M (fun gk q i wr => ∃ (k : Nat), k + gk = M ∧ i = .int .i64 k ∧ q = .int .i64 ((openL O k).length : Nat) ∧ wr = W2)
  case atStart => exact ⟨0, by omega, rfl, rfl, rfl⟩
  case round =>
    obtain ⟨k, hk, rfl, rfl, rfl⟩ := hrel
    by_cases hlt : k < M
    · obtain ⟨b, o', rfl, _, hc⟩ := s6.base opc_len (by decide) (by omega)
      obtain ⟨x, hx⟩ : ∃ x, O[k]? = some x := ⟨O[k]'(by have := s6.len; omega), List.getElem?_eq_getElem (i := k) _⟩
      have c15 : wr.cell? ⟨b, o' + k * 16 + 15, none⟩ = some (.int .i64 x.fin) := by have h0 := hc k x 15 _ hx rfl; simpa [Nat.add_assoc] using h0
      have b0 : (0 : Int) ≤ (k : Int) := by omega
      have b1 : (k : Int) < (M : Int) := by omega
      have hqk := openL_len O k
      by_cases hf : x.fin < 0
      · have hat := openL_at hlt hx hf
        have hql : (openL O k).length < L := by rw [← HLG.out]; exact (List.getElem?_eq_some_iff.1 hat).1
        obtain ⟨b2, o2, rfl, _, hc2⟩ := so.base ic_len (by decide) (by omega)
        have e0 : wr.cell? ⟨b2, o2 + (openL O k).length, none⟩ = some (.int .i64 (k : Int)) := by have h0 := hc2 _ _ 0 _ hat rfl; simpa using h0
        have HO : Hid ((openL O (k + 1)).length = (openL O k).length + 1) := by rw [Hid, openL, hx]; simp [hf]
        clear hat hc2 hc hx so s6
        generalize (openL O k).length = q at *
        have b2 : (0 : Int) ≤ (q : Int) := by omega
        have b3 : (q : Int) < (L : Int) := by omega
        have tk : ((k : Int) != (k : Int)) = false := by simp
        go_wp2_with fail
        go_roundg (gk - 1)
        case measure => omega
        case rel => exact ⟨k + 1, by omega, by go_num, by rw [HO.out]; go_num, rfl⟩
      · have tf : decide (x.fin < 0) = false := decide_eq_false hf
        have HO : Hid ((openL O (k + 1)).length = (openL O k).length) := by rw [Hid, openL, hx]; simp [hf]
        clear hc hx so s6
        go_wp2_with fail
        go_roundg (gk - 1)
        case measure => omega
        case rel => exact ⟨k + 1, by omega, by go_num, by rw [HO.out], rfl⟩
    · have hge : ¬ ((k : Int) < (M : Int)) := by omega
      obtain rfl : k = M := by omega
      have hl1 := HLG.out
      rw [hl1]
      clear so s6 HLG hl1
      go_wp2_with (go_at_call 6; refine (lives14 _).mono ?_; rintro e w7 ⟨rfl, hb7⟩)
      go_ret
      exact ⟨rfl, bnext kb6 hb7⟩
end Go.Proofs.Ytkcilmnmbfbogaa
