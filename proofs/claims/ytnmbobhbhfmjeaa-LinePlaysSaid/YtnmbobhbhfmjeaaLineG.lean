/- The walk of LinePlays. -/
import Derived.Test.YtnmbobhbhfmjeaaLineE
import Derived.Test.YtnmbobhbhfmjeaaPlan
namespace Go.Proofs.Ytnmbobhbhfmjeaa
set_option linter.unusedVariables false
set_option linter.unusedSimpArgs false
open Go.RowKit

/-- What the rounds of LinePlays keep: the box of the line that it began with, the box of the line at hand, the reference's list. -/
structure Play (W : World) (B7 B8 : Nat) (A1 : Option Addr) (n c1 : Nat) (l L : List Pr) (A : Option Addr) (c : Nat) (wr : World) : Prop where
  q7 : wr.cell? ⟨B7, 0, none⟩ = some (.slice A1 n c1)
  s7 : Sl pc wr A1 n c1 l
  q8 : QBox wr B8 L
  sx : Sl pc wr A L.length c L
  hx : ∀ ad, A = some ad → ad.block ≠ B8
  hb : Below W.heap.size W wr

theorem Play.next {W : World} {B7 B8 : Nat} {A1 : Option Addr} {n c1 : Nat} {l L : List Pr} {A : Option Addr} {c : Nat} {w w' : World} (P : Play W B7 B8 A1 n c1 l L A c w) (h : Below w.heap.size w w') : Play W B7 B8 A1 n c1 l L A c w' := by
  obtain ⟨A', c', q1, q2, q3, q4⟩ := P.q8
  exact ⟨keep_below P.q7 h, P.s7.below h, ⟨A', c', keep_below q1 h, keep_frozen q2 (block_lt_of_cell q1) h, q3.below h, q4⟩, P.sx.below h, P.hx, bnext P.hb h⟩

def stepL (L : List Pr) (p : Pr) : List Pr := if p.1 = 0 then L.drop 1 else L ++ [p]

set_option maxHeartbeats 2000000 in
set_option maxRecDepth 100000 in
theorem plays_walk {A B D : Option Addr} {n m k c c' c'' : Nat} {l ops o : List Pr} {W : World} (hl : Sl pc W A n c l) (hm : Sl pc W B m c' ops) (ho : Sl pc W D k c'' o) (hn : n ≤ 100) (hmm : m ≤ 100) (hk : k ≤ 200) :
    Calls Try.prog 4 #[.slice A n c, .slice B m c', .slice D k c''] W fun e w' => e = .returned (.bool true) ∧ Below W.heap.size W w' := by
  obtain ⟨i0, E⟩ := elem_p
  have hl1 := pc_one l
  have hx1 : (l.flatMap pc).length = n * 2 := by rw [flat_len pc_len, hl.len]
  go_enter Try.func4, Try.ntmps4
  go_wp2_with fail
  refine (of_p hl (by omega)).mono ?_
  rintro e w1 ⟨A1, c1, rfl, own1, hb1⟩
  go_upto_region 5 with (fail)
  have hB7 : W.heap.size ≤ w1.heap.size := hb1.size
  have sA : Sl pc w1 A1 n c1 l := Sl.of_own pc_len (by decide) own1
  have nA : ∀ ad, A1 = some ad → ad.block < w1.heap.size := fun ad ha => by subst ha; exact (own1.lt _ rfl).2
  obtain ⟨W0, hW0, z0, q7, q8, f8, s7, hb0, rx⟩ : ∃ W0, (w1.alloc (.cells #[.slice A1 n c1] 25)).alloc (.cells #[.slice A1 n c1] 25) = W0 ∧ w1.heap.size + 1 < W0.heap.size ∧ W0.cell? ⟨w1.heap.size, 0, none⟩ = some (.slice A1 n c1) ∧ W0.cell? ⟨w1.heap.size + 1, 0, none⟩ = some (.slice A1 n c1) ∧
      W0.frozen? ⟨w1.heap.size + 1, 0, none⟩ = false ∧ Sl pc W0 A1 n c1 l ∧ Below W.heap.size W W0 ∧ Rd W0 A (l.flatMap pc) :=
    ⟨_, rfl, by simp, by go_simp, by go_simp, by go_simp, (sA.alloc _).alloc _, bnew (bnew hb1 _) _, hl.rd.below (bnew (bnew hb1 _) _)⟩
  rw [hW0]
  clear hW0 own1 sA hb1
  generalize hB : w1.heap.size = B7 at *
  clear hB
  have nA' : ∀ ad, A1 = some ad → ad.block ≠ B7 + 1 := fun ad ha => by have := nA ad ha; omega
  clear nA
  go_wp2_with (at_builtin; refine wpList_onto E rfl (.tmp 36) (.tmp 37) rfl (bnew (brefl W0) _) rfl (own_empty (brefl W0) rfl) rfl hx1 (rx.alloc _) hl1 (by unfold maxLen; omega) (by omega) ?_; intro Ax cx w2 own2 hb2 _)
  have u7 := keep_below q7 hb2
  have p0 : Play W B7 (B7 + 1) A1 n c1 l l Ax cx w2 := by
    have hlen := hl.len
    have own2' : w2.ownsRow W0.heap.size 29 2 (.slice Ax n cx) n (l.flatMap pc) := by simpa using own2
    have sx : Sl pc w2 Ax n cx l := Sl.of_own pc_len (by decide) own2'
    refine ⟨u7, s7.below hb2, QBox.mk_ (keep_below q8 hb2) (keep_frozen f8 z0 hb2) (s7.below hb2) nA', by rw [hlen]; exact sx, ?_, bnext hb0 hb2⟩
    intro ad ha
    subst ha
    have := (own2'.lt _ rfl).1
    have e1 : (⟨ad.block, ad.off, ad.spot⟩ : Addr) = ad := rfl
    omega
  have hl0 : Hid (n = l.length) := hl.len.symm
  clear own2 hb2 u7 q7 q8 f8 s7 z0 hb0 rx hx1
  go_loopg [9, 10] m (fun gk x i wr => ∃ (j : Nat) (L : List Pr) (A : Option Addr) (c : Nat), j + gk = m ∧ i = .int .i64 j ∧ x = .slice A L.length c ∧ L.length ≤ n + j ∧ Play W B7 (B7 + 1) A1 n c1 l L A c wr)
  case atStart => exact ⟨0, l, Ax, cx, by omega, rfl, by rw [← hl0.out], by have := hl0.out; omega, p0⟩
  case round =>
    obtain ⟨j, L, Ar, cr, hj, rfl, rfl, hLn, P⟩ := hrel
    by_cases hlt : j < m
    · obtain ⟨x, hx⟩ : ∃ x, ops[j]? = some x := ⟨_, List.getElem?_eq_getElem (by rw [hm.len]; exact hlt)⟩
      obtain ⟨b, o', rfl, hbb, hc⟩ := hm.base pc_len (by decide) (by omega)
      have x0 : wr.cell? ⟨b, o' + j * 2, none⟩ = some (.int .u64 x.1) := (P.hb.cell (by exact hbb)).trans (hc j x 0 _ hx rfl)
      have x1 : wr.cell? ⟨b, o' + j * 2 + 1, none⟩ = some (.int .u64 x.2) := (P.hb.cell (by exact hbb)).trans (by rw [Nat.add_assoc]; exact hc j x 1 _ hx rfl)
      have b0 : (0 : Int) ≤ (j : Int) := by omega
      have b1 : (j : Int) < (m : Int) := by omega
      clear hc hx
      go_upto_if 50 with (fail)
      go_cut [9] (fun x' w' => ∃ (A : Option Addr) (c : Nat), x' = .slice A (stepL L x).length c ∧ Play W B7 (B7 + 1) A1 n c1 l (stepL L x) A c w')
      case first =>
        obtain ⟨Aq, cq, q1, q2, q3, q4⟩ := P.q8
        have u7 := P.q7
        have z8 : B7 + 1 < wr.heap.size := block_lt_of_cell q1
        by_cases hz : x.1 = 0
        · have t1 : (x.1 != 0) = false := by simp [hz]
          have HS : Hid (stepL L x = L.drop 1) := if_pos hz
          have hWB : W.heap.size ≤ B7 + 1 := by omega
          clear hz x0 x1
          cases L with
          | nil =>
            have hne := neq_p (0, 0) (0, 0)
            go_wp2_with (go_at_call 9; refine (pop_p_nil Aq cq wr).mono ?_; rintro e w2 ⟨rfl, hb2⟩)
            have z2 : B7 + 1 < w2.heap.size := Nat.lt_of_lt_of_le z8 hb2.size
            obtain ⟨hc2, hf2, _⟩ := bcell hb2
            go_wp2_with (go_at_call 11; refine (without_nil Ar cr _).mono ?_; rintro e w3 ⟨rfl, hb3⟩; obtain ⟨hc3, hf3, hz3⟩ := bcell hb3; simp at hz3; have za : w2.heap.size < w3.heap.size := (by omega); have zb : w2.heap.size + 1 < w3.heap.size := (by omega); have zc : B7 + 1 < w3.heap.size := (by omega); have zd : B7 + 1 < w2.heap.size + 1 := (by omega); have ze : B7 + 1 < w2.heap.size + 1 + 1 := (by omega); have zf : B7 + 1 < w3.heap.size + 1 := (by omega))
            go_meet
            case rel =>
              have hb4 := bnext (bnew (bnew hb2 _) _) hb3
              refine ⟨Ar, cr, by rw [HS.out]; rfl, ?_⟩
              rw [HS.out]
              exact ⟨keep_below (keep_set (keep_below u7 hb4) (by dsimp only; omega)) (bnew (brefl _) _), ((P.s7.below hb4).setCell (by simpa using nA') _).alloc _, QBox.mk_ (n := 0) (by go_simp) (by go_simp) (((q3.below hb4).setCell (by simpa using q4) _).alloc _) q4, ((P.sx.below hb4).setCell (by simpa using P.hx) _).alloc _, P.hx, bnew (bset (bnext P.hb hb4) (by exact hWB) _) _⟩
          | cons p r =>
            have hne := neq_p p p
            have q3' : Sl pc wr Aq (r.length + 1) cq (p :: r) := q3
            have sx' : Sl pc wr Ar (r.length + 1) cr (p :: r) := P.sx
            have q1' : wr.cell? ⟨B7 + 1, 0, none⟩ = some (.slice Aq (r.length + 1) cq) := q1
            have hr1 : r.length ≤ 1000 := by simp at hLn; omega
            clear q1 q3
            go_wp2_with (go_at_call 9; refine (pop_p q3' (by omega)).mono ?_; rintro e w2 ⟨A2, c2, rfl, s2, h2, hb2⟩)
            have z2 : B7 + 1 < w2.heap.size := Nat.lt_of_lt_of_le z8 hb2.size
            obtain ⟨hc2, hf2, _⟩ := bcell hb2
            go_wp2_with (go_at_call 11; refine (without_cons (((sx'.below hb2).alloc _).alloc _) (by omega)).mono ?_; rintro e w3 ⟨A3, c3, rfl, own3, hb3⟩; obtain ⟨hc3, hf3, hz3⟩ := bcell hb3; simp at hz3; have za : w2.heap.size < w3.heap.size := (by omega); have zb : w2.heap.size + 1 < w3.heap.size := (by omega); have zc : B7 + 1 < w3.heap.size := (by omega); have zd : B7 + 1 < w2.heap.size + 1 := (by omega); have ze : B7 + 1 < w2.heap.size + 1 + 1 := (by omega); have zf : B7 + 1 < w3.heap.size + 1 := (by omega))
            go_meet
            case rel =>
              have hb4 := bnext (bnew (bnew hb2 _) _) hb3
              have n2 : ∀ ad, A2 = some ad → ad.block ≠ B7 + 1 := fun ad ha => by
                obtain ⟨ad0, e1, e2⟩ := h2 ad ha
                rw [e2]
                exact q4 ad0 e1
              have n3 : ∀ ad, A3 = some ad → ad.block ≠ B7 + 1 := fun ad ha => by
                subst ha
                have h3 := (own3.lt _ rfl).1
                simp at h3
                omega
              refine ⟨A3, c3, by rw [HS.out]; rfl, ?_⟩
              rw [HS.out]
              exact ⟨keep_below (keep_set (keep_below u7 hb4) (by dsimp only; omega)) (bnew (brefl _) _), ((P.s7.below hb4).setCell (by simpa using nA') _).alloc _, QBox.mk_ (n := r.length) (by go_simp) (by go_simp) (((((s2.alloc _).alloc _).below hb3).setCell (by simpa using n2) _).alloc _) n2, ((Sl.of_own pc_len (by decide) own3).setCell (by simpa using n3) _).alloc _, n3, bnew (bset (bnext P.hb hb4) (by exact hWB) _) _⟩
        · have t1 : (x.1 != 0) = true := by simpa using hz
          have HS : Hid (stepL L x = L ++ [x]) := if_neg hz
          clear hz
          go_wp2_with fail
          refine wp_tail 5 (by kernel_rfl) (by kernel_rfl) ?_
          simp only [List.take_succ_cons, List.take_zero, List.drop_succ_cons, List.drop_zero]
          repeat still_step
          refine wpStill_nil ?_
          go_wp2_with (go_at_call 8; refine (push_p q3.drew x.1 x.2 (by omega)).mono ?_; rintro e w2 ⟨A2, c2, rfl, own2, hb2⟩; have f1 := hb2.cell (p := ⟨B7 + 1, 0, none⟩) (by exact z8); have f2 := hb2.frozen (p := ⟨B7 + 1, 0, none⟩) (by exact z8))
          have hbd : Below wr.heap.size wr w2 := bnext (brefl wr).drew hb2
          have zz : B7 + 1 < w2.heap.size := Nat.lt_of_lt_of_le z8 hbd.size
          have hA2 : ∀ ad, A2 = some ad → ad.block ≠ B7 + 1 := fun ad ha => by
            subst ha
            have h3 := (own2.lt _ rfl).1
            have e1 : wr.drew.heap.size = wr.heap.size := rfl
            omega
          have s2 : Sl pc w2 A2 (L.length + 1) c2 (L ++ [x]) := Sl.of_own pc_len (by decide) own2
          have hWB : W.heap.size ≤ B7 + 1 := by omega
          obtain ⟨W5, hW5, y0, y1, y7, y8, g8, v7, v2, vx, hb5⟩ : ∃ W5, w2.setCell ⟨B7 + 1, 0, none⟩ (.slice A2 (L.length + 1) c2) = W5 ∧ W5.cell? ⟨b, o' + j * 2, none⟩ = some (.int .u64 x.1) ∧ W5.cell? ⟨b, o' + j * 2 + 1, none⟩ = some (.int .u64 x.2) ∧ W5.cell? ⟨B7, 0, none⟩ = some (.slice A1 n c1) ∧ W5.cell? ⟨B7 + 1, 0, none⟩ = some (.slice A2 (L.length + 1) c2) ∧ W5.frozen? ⟨B7 + 1, 0, none⟩ = false ∧
              Sl pc W5 A1 n c1 l ∧ Sl pc W5 A2 (L.length + 1) c2 (L ++ [x]) ∧ Sl pc W5 Ar L.length cr L ∧ Below W.heap.size W W5 :=
            ⟨_, rfl, keep_set (keep_below x0 hbd) (by dsimp only; omega), keep_set (keep_below x1 hbd) (by dsimp only; omega), keep_set (keep_below u7 hbd) (by dsimp only; omega), by go_simp, by go_simp,
              (P.s7.below hbd).setCell (by simpa using nA') _, s2.setCell (by simpa using hA2) _, (P.sx.below hbd).setCell (by simpa using P.hx) _, bset (bnext P.hb hbd) (by exact hWB) _⟩
          rw [hW5]
          clear hW5 own2 hb2 f1 f2 hbd zz s2 q1 q2 q3 q4 u7 x0 x1 P
          have hrx := vx.rd
          have hrl : (L.flatMap pc).length = L.length * 2 := flat_len pc_len L
          have hr1 := pc_one L
          go_region_held3 (fun w' => w'.cell? ⟨b, o' + j * 2, none⟩ = some (.int .u64 x.1) ∧ w'.cell? ⟨b, o' + j * 2 + 1, none⟩ = some (.int .u64 x.2))
            (first | exact ⟨y0, y1⟩ | exact ⟨keep_below (w := W5) y0 (by repeat (first | assumption | exact brefl _ | refine Below.drew ?_ | refine bnew ?_ _)), keep_below (w := W5) y1 (by repeat (first | assumption | exact brefl _ | refine Below.drew ?_ | refine bnew ?_ _))⟩)
            ((first | (refine step_fresh (W0 := W5) (ys := L.flatMap pc) (m := L.length) E rfl (.tmp 57) (.tmp 58) rfl (by repeat (first | assumption | exact brefl _ | refine Below.drew ?_ | refine bnew ?_ _)) rfl (by first | exact own_empty (W0 := W5) (by repeat (first | assumption | exact brefl _ | refine Below.drew ?_ | refine bnew ?_ _)) (by simp) | exact (own_empty (W0 := W5) (by repeat (first | assumption | exact brefl _ | refine Below.drew ?_ | refine bnew ?_ _)) (by simp)).alloc _) rfl hrl (hrx.below (by repeat (first | assumption | exact brefl _ | refine Below.drew ?_ | refine bnew ?_ _))) hr1 (by unfold maxLen; omega) (by omega) ?_; intro A7 c7 w7 own7 hb7 hg7) | (refine step_onto (W0 := W5) (v := .slice A7 L.length c7) (n := L.length) (xs := L.flatMap pc) (ys := [.int .u64 x.1, .int .u64 x.2]) (m := 1) E rfl (.tmp 59) (.tmp 64) rfl (by repeat (first | assumption | exact brefl _ | refine Below.drew ?_ | refine bnew ?_ _)) rfl (by first | exact own7 | exact own7.alloc _) rfl rfl (by first | exact Rd.new _ _ _ (by simp) | exact (Rd.drew (Rd.new _ _ _ (by simp))).grown hg7 (by simp) | exact (Rd.drew ((Rd.new _ _ _ (by simp)).alloc _)).grown hg7 (by simp)) (by simp [Value.oneCell']) (by unfold maxLen; omega) (by omega) ?_; intro A8 c8 w8 own8 hb8 _)))
          all_goals
            go_wp2_with fail
            go_meet
            case rel =>
              refine ⟨A8, c8, by rw [HS.out]; simp, ?_⟩
              rw [HS.out]
              have own9 : w8.ownsRow W5.heap.size 29 2 (.slice A8 (L ++ [x]).length c8) (L ++ [x]).length ((L ++ [x]).flatMap pc) := by
                rw [List.length_append, List.flatMap_append]
                exact own8
              refine ⟨keep_below y7 hb8, v7.below hb8, QBox.mk_ (keep_below y8 hb8) (keep_frozen g8 (block_lt_of_cell y8) hb8) (v2.below hb8) hA2, Sl.of_own pc_len (by decide) own9, ?_, bnext hb5 hb8⟩
              intro ad ha
              subst ha
              have h3 := (own9.lt _ rfl).1
              have h4 : B7 + 1 < W5.heap.size := block_lt_of_cell y8
              omega
      case rest =>
        obtain ⟨A', c', rfl, P⟩ := hcut
        have hL' : (stepL L x).length ≤ n + (j + 1) := by
          unfold stepL
          split
          · rw [List.length_drop]; omega
          · rw [List.length_append, List.length_singleton]; omega
        generalize stepL L x = L' at *
        obtain ⟨Aq, cq, q1, q2, s8, q4⟩ := P.q8
        clear x0 x1
        cases L' with
        | nil =>
            go_wp2_with (go_at_call 12; refine (peek_p_nil Aq cq _).mono ?_; rintro e w2 ⟨rfl, hb2⟩)
            obtain ⟨W6, hW6, y8, hb6⟩ : ∃ W6, w2.alloc (.cells #[.int .u64 0, .int .u64 0] 29) = W6 ∧ W6.cell? ⟨B7 + 1, 0, none⟩ = some (.slice Aq 0 cq) ∧ Below wc.heap.size wc W6 :=
              ⟨_, rfl, keep_below (keep_below q1 hb2) (bnew (brefl _) _), bnew hb2 _⟩
            rw [hW6]
            clear hW6
            have sx : Sl pc W6 A' 0 c' [] := P.sx.below hb6
            have s8 := s8.below hb6
            have hPn := Play.next P hb6
            clear hb2 P q1 q2 q4
            have hX := @Ext.cell W6
            have hzz0 := block_lt_of_cell y8
            refine wp_region_noPanic ?_
            refine wp_region_plan (fun w' => ∃ x : Ext W6, w' = x.w) [([0, 2, 3], 1), ([4, 5, 6, 8], 7), ([], 9)] [10, 11, 12, 13, 14, 15, 16, 17, 18, 19, 20, 21, 22, 23, 24, 25, 26, 27, 28] (by kernel_rfl) (by kernel_rfl) (by kernel_rfl) (fun _ _ _ _ _ h => h) ⟨⟨_, (brefl W6).drew⟩, rfl⟩ ?_
            refine wpPlan_cons ?_
            simp only [pickOps, List.getElem?_cons_succ, List.getElem?_cons_zero, Option.elim_some]
            repeat (go_big_quiet_step (fail))
            refine wpQuiet_nil ?_
            refine planAct_some (fun K hK => ?_)
            go_simp
            refine (len_p _ _ _ _ (by omega)).mono ?_
            rintro e wa ⟨rfl, hba⟩
            go_wp2_with fail
            refine hK.out _ _ ⟨⟨_, (bnext (brefl W6).drew hba)⟩, rfl⟩ ?_
            clear hK K
            refine wpPlan_cons ?_
            simp only [pickOps, List.getElem?_cons_succ, List.getElem?_cons_zero, Option.elim_some]
            repeat (go_big_quiet_step (fail))
            refine wpQuiet_nil ?_
            refine planAct_some (fun K hK => ?_)
            go_simp
            refine (all_p (s8.below (bnext (brefl W6).drew hba)) (by omega)).mono ?_
            rintro e wb ⟨Ab, cb, rfl, ownb, hbb'⟩
            go_wp2_with fail
            refine hK.out _ _ ⟨⟨_, (bnext (bnext (brefl W6).drew hba) hbb')⟩, rfl⟩ ?_
            clear hK K
            refine wpPlan_cons ?_
            simp only [pickOps, List.getElem?_cons_succ, List.getElem?_cons_zero, Option.elim_some]
            repeat (go_big_quiet_step (fail))
            refine wpQuiet_nil ?_
            refine planAct_some (fun K hK => ?_)
            go_simp
            refine (same_ref (Sl.of_own pc_len (by decide) ownb) (sx.below (bnext (bnext (brefl W6).drew hba) hbb')) (by omega) (by omega)).mono ?_
            rintro e wd ⟨rfl, dd, rfl⟩
            go_wp2_with fail
            refine hK.out _ _ ⟨⟨_, (below_drewN (bnext (bnext (brefl W6).drew hba) hbb') dd)⟩, rfl⟩ ?_
            clear hK K
            refine wpPlan_last ?_
            simp only [pickOps, List.getElem?_cons_succ, List.getElem?_cons_zero, Option.elim_some]
            repeat (go_big_quiet_step (fail))
            refine wpQuiet_nil ?_
            refine NoPanic.normal ?_
            clear hX hzz0
            have hfin := below_drewN (bnext (bnext (brefl W6).drew hba) hbb') dd
            go_wp2
            go_roundg (gk - 1)
            case measure => omega
            case rel => exact ⟨j + 1, [], A', c', by omega, by go_num, by first | rfl | simp, by first | omega | (simp at hL' ⊢; omega), hPn.next hfin⟩
        | cons p r =>
            have hr1 : r.length ≤ 1000 := by simp at hL'; omega
            simp only [List.length_cons] at q1 s8
            go_wp2_with (go_at_call 12; refine (peek_p_cons s8 (by omega)).mono ?_; rintro e w2 ⟨rfl, hb2⟩)
            obtain ⟨W6, hW6, y8, hb6, y1, y2⟩ : ∃ W6, w2.alloc (.cells #[.int .u64 p.1, .int .u64 p.2] 29) = W6 ∧ W6.cell? ⟨B7 + 1, 0, none⟩ = some (.slice Aq (r.length + 1) cq) ∧ Below wc.heap.size wc W6 ∧ W6.cell? ⟨w2.heap.size, 0, none⟩ = some (.int .u64 p.1) ∧ W6.cell? ⟨w2.heap.size, 1, none⟩ = some (.int .u64 p.2) :=
              ⟨_, rfl, keep_below (keep_below q1 hb2) (bnew (brefl _) _), bnew hb2 _, by go_simp, by go_simp⟩
            rw [hW6]
            clear hW6
            obtain ⟨bx, ox, rfl, hbx, ec⟩ := P.sx.base pc_len (by decide) (by simp)
            have y3 : W6.cell? ⟨bx, ox, none⟩ = some (.int .u64 p.1) := keep_below (by simpa using ec 0 p 0 _ rfl rfl) hb6
            have y4 : W6.cell? ⟨bx, ox + 1, none⟩ = some (.int .u64 p.2) := keep_below (by simpa using ec 0 p 1 _ rfl rfl) hb6
            have sx : Sl pc W6 (some ⟨bx, ox, none⟩) (r.length + 1) c' (p :: r) := P.sx.below hb6
            have s8 := s8.below hb6
            have t0 : (0 : Int) < (r.length : Int) + 1 := by omega
            have hne := neq_p p p
            clear ec hbx
            have hPn := Play.next P hb6
            clear hb2 P q1 q2 q4
            have hX := @Ext.cell W6
            have hzz0 := block_lt_of_cell y8
            have hzz1 := block_lt_of_cell y1
            have hzz2 := block_lt_of_cell y3
            refine wp_region_noPanic ?_
            refine wp_region_plan (fun w' => ∃ x : Ext W6, w' = x.w) [([0, 2, 3], 1), ([4, 5, 6, 8], 7), ([], 9)] [10, 11, 12, 13, 14, 15, 16, 17, 18, 19, 20, 21, 22, 23, 24, 25, 26, 27, 28] (by kernel_rfl) (by kernel_rfl) (by kernel_rfl) (fun _ _ _ _ _ h => h) ⟨⟨_, (brefl W6).drew⟩, rfl⟩ ?_
            refine wpPlan_cons ?_
            simp only [pickOps, List.getElem?_cons_succ, List.getElem?_cons_zero, Option.elim_some]
            repeat (go_big_quiet_step (fail))
            refine wpQuiet_nil ?_
            refine planAct_some (fun K hK => ?_)
            go_simp
            refine (len_p _ _ _ _ (by omega)).mono ?_
            rintro e wa ⟨rfl, hba⟩
            go_wp2_with fail
            refine hK.out _ _ ⟨⟨_, (bnext (brefl W6).drew hba)⟩, rfl⟩ ?_
            clear hK K
            refine wpPlan_cons ?_
            simp only [pickOps, List.getElem?_cons_succ, List.getElem?_cons_zero, Option.elim_some]
            repeat (go_big_quiet_step (fail))
            refine wpQuiet_nil ?_
            refine planAct_some (fun K hK => ?_)
            go_simp
            refine (all_p (s8.below (bnext (brefl W6).drew hba)) (by omega)).mono ?_
            rintro e wb ⟨Ab, cb, rfl, ownb, hbb'⟩
            go_wp2_with fail
            refine hK.out _ _ ⟨⟨_, (bnext (bnext (brefl W6).drew hba) hbb')⟩, rfl⟩ ?_
            clear hK K
            refine wpPlan_cons ?_
            simp only [pickOps, List.getElem?_cons_succ, List.getElem?_cons_zero, Option.elim_some]
            repeat (go_big_quiet_step (fail))
            refine wpQuiet_nil ?_
            refine planAct_some (fun K hK => ?_)
            go_simp
            refine (same_ref (Sl.of_own pc_len (by decide) ownb) (sx.below (bnext (bnext (brefl W6).drew hba) hbb')) (by omega) (by omega)).mono ?_
            rintro e wd ⟨rfl, dd, rfl⟩
            go_wp2_with fail
            refine hK.out _ _ ⟨⟨_, (below_drewN (bnext (bnext (brefl W6).drew hba) hbb') dd)⟩, rfl⟩ ?_
            clear hK K
            refine wpPlan_last ?_
            simp only [pickOps, List.getElem?_cons_succ, List.getElem?_cons_zero, Option.elim_some]
            repeat (go_big_quiet_step (fail))
            refine wpQuiet_nil ?_
            refine NoPanic.normal ?_
            clear hX hzz0 hzz1 hzz2
            have hfin := below_drewN (bnext (bnext (brefl W6).drew hba) hbb') dd
            go_wp2
            go_roundg (gk - 1)
            case measure => omega
            case rel => exact ⟨j + 1, (p :: r), some ⟨bx, ox, none⟩, c', by omega, by go_num, by first | rfl | simp, by first | omega | (simp at hL' ⊢; omega), hPn.next hfin⟩
    · obtain rfl : j = m := by omega
      have hlr := hl.below P.hb
      have hor := ho.below P.hb
      obtain ⟨Aq, cq, q1, q2, s8, q4⟩ := P.q8
      have y7 := P.q7
      have hge : ¬ ((j : Int) < (j : Int)) := by omega
      have hLn' : L.length ≤ 1000000 := by omega
      go_wp2_with fail
      have hX := @Ext.cell wr
      have hzz0 := block_lt_of_cell q1
      have hzz1 := block_lt_of_cell y7
      refine wp_region_noPanic ?_
      refine wp_region_plan (fun w' => ∃ x : Ext wr, w' = x.w) [([0, 1], 2), ([], 3), ([4, 5, 7, 8], 6), ([9, 10, 11, 12, 13, 16, 17], 14), ([], 15), ([], 18), ([19, 20, 21], 22)] [23, 24] (by kernel_rfl) (by kernel_rfl) (by kernel_rfl) (fun _ _ _ _ _ h => h) ⟨⟨_, (brefl wr).drew⟩, rfl⟩ ?_
      refine wpPlan_cons ?_
      simp only [pickOps, List.getElem?_cons_succ, List.getElem?_cons_zero, Option.elim_some]
      repeat (go_big_quiet_step (fail))
      refine wpQuiet_nil ?_
      refine planAct_some (fun K hK => ?_)
      go_simp
      refine (of_p hlr.drew (by omega)).mono ?_
      rintro e wa ⟨Aa, ca, rfl, owna, hba⟩
      go_wp2_with fail
      refine hK.out _ _ ⟨⟨_, (bnext (brefl wr).drew hba)⟩, rfl⟩ ?_
      clear hK K
      refine wpPlan_cons ?_
      simp only [pickOps, List.getElem?_cons_succ, List.getElem?_cons_zero, Option.elim_some]
      repeat (go_big_quiet_step (fail))
      refine wpQuiet_nil ?_
      refine planAct_some (fun K hK => ?_)
      go_simp
      refine (same_p (P.s7.below (bnext (brefl wr).drew hba)) (Sl.of_own pc_len (by decide) owna) (by omega) (by omega)).mono ?_
      rintro e wb ⟨rfl, hbb⟩
      go_wp2_with fail
      refine hK.out _ _ ⟨⟨_, (bnext (bnext (brefl wr).drew hba) hbb)⟩, rfl⟩ ?_
      clear hK K
      refine wpPlan_cons ?_
      simp only [pickOps, List.getElem?_cons_succ, List.getElem?_cons_zero, Option.elim_some]
      repeat (go_big_quiet_step (fail))
      refine wpQuiet_nil ?_
      refine planAct_some (fun K hK => ?_)
      go_simp
      refine (len_p _ _ _ _ (by omega)).mono ?_
      rintro e wc ⟨rfl, hbc⟩
      go_wp2_with fail
      refine hK.out _ _ ⟨⟨_, (bnext (bnext (bnext (brefl wr).drew hba) hbb) hbc)⟩, rfl⟩ ?_
      clear hK K
      refine wpPlan_cons ?_
      simp only [pickOps, List.getElem?_cons_succ, List.getElem?_cons_zero, Option.elim_some]
      repeat (go_big_quiet_step (fail))
      refine wpQuiet_nil ?_
      refine planAct_some (fun K hK => ?_)
      go_simp
      refine (of_p (hor.below (bnext (bnext (bnext (brefl wr).drew hba) hbb) hbc)) (by omega)).mono ?_
      rintro e wd ⟨Ad, cd, rfl, ownd, hbd⟩
      go_wp2_with fail
      refine hK.out _ _ ⟨⟨_, (bnext (bnext (bnext (bnext (brefl wr).drew hba) hbb) hbc) hbd)⟩, rfl⟩ ?_
      clear hK K
      refine wpPlan_cons ?_
      simp only [pickOps, List.getElem?_cons_succ, List.getElem?_cons_zero, Option.elim_some]
      repeat (go_big_quiet_step (fail))
      refine wpQuiet_nil ?_
      refine planAct_some (fun K hK => ?_)
      go_simp
      refine (same_p (s8.below (bnext (bnext (bnext (bnext (brefl wr).drew hba) hbb) hbc) hbd)) (Sl.of_own pc_len (by decide) ownd) (by omega) (by omega)).mono ?_
      rintro e we ⟨rfl, hbe⟩
      go_wp2_with fail
      refine hK.out _ _ ⟨⟨_, (bnext (bnext (bnext (bnext (bnext (brefl wr).drew hba) hbb) hbc) hbd) hbe)⟩, rfl⟩ ?_
      clear hK K
      refine wpPlan_cons ?_
      simp only [pickOps, List.getElem?_cons_succ, List.getElem?_cons_zero, Option.elim_some]
      repeat (go_big_quiet_step (fail))
      refine wpQuiet_nil ?_
      refine planAct_some (fun K hK => ?_)
      go_simp
      refine (same_ref (P.sx.below (bnext (bnext (bnext (bnext (bnext (brefl wr).drew hba) hbb) hbc) hbd) hbe)) (hor.below (bnext (bnext (bnext (bnext (bnext (brefl wr).drew hba) hbb) hbc) hbd) hbe)) (by omega) (by omega)).mono ?_
      rintro e wf ⟨rfl, dd, rfl⟩
      go_wp2_with fail
      refine hK.out _ _ ⟨⟨_, (below_drewN (bnext (bnext (bnext (bnext (bnext (brefl wr).drew hba) hbb) hbc) hbd) hbe) dd)⟩, rfl⟩ ?_
      clear hK K
      refine wpPlan_cons ?_
      simp only [pickOps, List.getElem?_cons_succ, List.getElem?_cons_zero, Option.elim_some]
      repeat (go_big_quiet_step (fail))
      refine wpQuiet_nil ?_
      refine planAct_some (fun K hK => ?_)
      go_simp
      refine (lives_any _).mono ?_
      rintro e wg ⟨rfl, hbg⟩
      go_wp2_with fail
      refine hK.out _ _ ⟨⟨_, (bnext (below_drewN (bnext (bnext (bnext (bnext (bnext (brefl wr).drew hba) hbb) hbc) hbd) hbe) dd) hbg)⟩, rfl⟩ ?_
      clear hK K
      refine wpPlan_last ?_
      simp only [pickOps, List.getElem?_cons_succ, List.getElem?_cons_zero, Option.elim_some]
      repeat (go_big_quiet_step (fail))
      refine wpQuiet_nil ?_
      refine NoPanic.normal ?_
      clear hX hzz0 hzz1
      go_wp2
      go_ret
      exact ⟨rfl, bnext P.hb (bnext (below_drewN (bnext (bnext (bnext (bnext (bnext (brefl wr).drew hba) hbb) hbc) hbd) hbe) dd) hbg)⟩

set_option maxRecDepth 100000 in
/-- Too long lists: the example alone is asked. -/
theorem plays_great {A B D : Option Addr} {n m k c c' c'' : Nat} {W : World} (h : 100 < n ∨ 100 < m ∨ 200 < k) (hn : n ≤ 9223372036854775807) (hm : m ≤ 9223372036854775807) (hk : k ≤ 9223372036854775807) :
    Calls Try.prog 4 #[.slice A n c, .slice B m c', .slice D k c''] W fun e w' => e = .returned (.bool true) ∧ Below W.heap.size W w' := by
  by_cases h1 : 100 < n
  · have t1 : (100 : Int) < (n : Int) := by omega
    go_enter Try.func4, Try.ntmps4
    go_wp2_with (go_at_call 6; refine (lives_any _).mono ?_; rintro e w5 ⟨rfl, hb5⟩)
    go_ret
    exact ⟨rfl, hb5⟩
  by_cases h2 : 100 < m
  · have t1 : ¬ (100 : Int) < (n : Int) := by omega
    have t2 : (100 : Int) < (m : Int) := by omega
    go_enter Try.func4, Try.ntmps4
    go_wp2_with (go_at_call 6; refine (lives_any _).mono ?_; rintro e w5 ⟨rfl, hb5⟩)
    go_ret
    exact ⟨rfl, hb5⟩
  · have t1 : ¬ (100 : Int) < (n : Int) := by omega
    have t2 : ¬ (100 : Int) < (m : Int) := by omega
    have t3 : (200 : Int) < (k : Int) := by omega
    go_enter Try.func4, Try.ntmps4
    go_wp2_with (go_at_call 6; refine (lives_any _).mono ?_; rintro e w5 ⟨rfl, hb5⟩)
    go_ret
    exact ⟨rfl, hb5⟩

theorem plays_any {A B D : Option Addr} {n m k c c' c'' : Nat} {l ops o : List Pr} {W : World} (hl : Sl pc W A n c l) (hm : Sl pc W B m c' ops) (ho : Sl pc W D k c'' o) (h1 : c ≤ maxLen) (h2 : c' ≤ maxLen) (h3 : c'' ≤ maxLen) :
    Calls Try.prog 4 #[.slice A n c, .slice B m c', .slice D k c''] W fun e w' => e = .returned (.bool true) ∧ Below W.heap.size W w' := by
  unfold maxLen at h1 h2 h3
  have e1 := hl.cap
  have e2 := hm.cap
  have e3 := ho.cap
  by_cases h : n ≤ 100 ∧ m ≤ 100 ∧ k ≤ 200
  · exact plays_walk hl hm ho h.1 h.2.1 h.2.2
  · exact plays_great (by omega) (by omega) (by omega) (by omega)
end Go.Proofs.Ytnmbobhbhfmjeaa
