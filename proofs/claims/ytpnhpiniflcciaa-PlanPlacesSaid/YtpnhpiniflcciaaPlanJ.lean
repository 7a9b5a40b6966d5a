/- The reference's list of all places: the walk. -/
import Derived.Test.YtpnhpiniflcciaaPlanI
namespace Go.Proofs.Ytpnhpiniflcciaa
set_option linter.unusedVariables false
set_option linter.unusedSimpArgs false
open Go.RowKit

theorem elem_pl : ∃ i, Elem Try.prog 60 66 i (.agg #[.int .i64 0, .int .i64 0, .int .i64 0, .int .i64 0]) 4 32 := Elem.of Try.underlying60 (by kernel_rfl) rfl (by decide)


theorem le_new {W0 w : World} (h : Below W0.heap.size W0 w) {o : Obj} : W0.heap.size ≤ (w.alloc o).heap.size := (h.alloc h.size o).size
theorem ad_at (B k : Nat) : (⟨B, 0, none⟩ : Addr).add k = ⟨B, k, none⟩ := by unfold Addr.add; split <;> simp_all
set_option maxHeartbeats 8000000 in
set_option maxRecDepth 100000 in
theorem all_any (c : Cf) (hm : c.May) (w : World) : Calls Try.prog 37 #[.agg #[.int .i64 c.lv, .int .i64 c.th, .int .i64 c.o0, .int .i64 c.o1, .int .i64 c.o2, .int .i64 c.o3, .int .i64 c.o4, .int .i64 c.o5, .int .i64 c.o6, .int .i64 c.o7, .int .i64 c.sl, .int .i64 c.li, .int .i64 c.ge, .int .i64 c.qu]] w fun e w' => ∃ A' c', e = .returned (.slice A' (c.lv * c.size).toNat c') ∧ w'.ownsRow w.heap.size 66 4 (.slice A' (c.lv * c.size).toNat c') (c.lv * c.size).toNat ((wl c (c.lv * c.size).toNat).flatMap plc) ∧ Below w.heap.size w w' := by
  obtain ⟨i0, E⟩ := elem_pl
  have hsb := size_bd hm
  have hmb := many_bd hm
  have l1 := hm.l1
  have l2 := hm.l2
  have s1 := hm.s1
  have s2 := hm.s2
  have m1 := hm.m1
  have m2 := hm.m2
  have hf8 : c.fst 8 = 18 + c.li := rfl
  have hf9 : c.fst 9 = 18 + c.li + c.sl := rfl
  have hSz : c.size = 18 + c.li + c.sl * 6 := rfl
  have hmf := many_fst c
  have hfb := fst_bd c hm.m1 hm.s1
  go_enter Try.func37, Try.ntmps37
  go_wp2_with fail
  obtain ⟨W0, hW0, k0, k10, k11, kb⟩ : ∃ W0, w.alloc (.cells #[.int .i64 c.lv, .int .i64 c.th, .int .i64 c.o0, .int .i64 c.o1, .int .i64 c.o2, .int .i64 c.o3, .int .i64 c.o4, .int .i64 c.o5, .int .i64 c.o6, .int .i64 c.o7, .int .i64 c.sl, .int .i64 c.li, .int .i64 c.ge, .int .i64 c.qu] 45) = W0 ∧ W0.cell? ⟨w.heap.size, 0, none⟩ = some (.int .i64 c.lv) ∧ W0.cell? ⟨w.heap.size, 10, none⟩ = some (.int .i64 c.sl) ∧ W0.cell? ⟨w.heap.size, 11, none⟩ = some (.int .i64 c.li) ∧ Below w.heap.size w W0 :=
    ⟨_, rfl, by go_simp, by go_simp, by go_simp, bnew (brefl w) _⟩
  rw [hW0]
  clear hW0
  obtain ⟨L, hL⟩ : ∃ L : Nat, c.lv = (L : Int) := ⟨c.lv.toNat, by omega⟩
  have HL : Hid (c.lv = (L : Int)) := hL
  have hL4 : L ≤ 4 := by omega
  obtain ⟨N, hN⟩ : ∃ N : Nat, c.sl = (N : Int) := ⟨c.sl.toNat, by omega⟩
  have HN : Hid (c.sl = (N : Int)) := hN
  clear hL hN
  go_loopg [3, 4] L (fun gk l m wr => ∃ (t Q : Nat) (A' : Option Addr) (c' : Nat), t + gk = L ∧ m = .int .i64 t ∧ l = .slice A' Q c' ∧ Hid ((Q : Int) = (t : Int) * c.size) ∧ wr.ownsRow W0.heap.size 66 4 (.slice A' Q c') Q ((wl c Q).flatMap plc) ∧ Below W0.heap.size W0 wr)
  case atStart => exact ⟨0, 0, none, 0, by omega, rfl, rfl, by simp [Hid], World.ownsRow_nil _ _ _ _, brefl W0⟩
  case round =>
    obtain ⟨t, Q, A', c', ht, rfl, rfl, hQ, own, hbr⟩ := hrel
    by_cases hlt : t < L
    · have ht0 : (0 : Int) ≤ (t : Int) := by omega
      have ht1 : (t : Int) < c.lv := by rw [HL.out]; omega
      obtain ⟨gr, hgr⟩ : ∃ g, g = gk := ⟨_, rfl⟩
      subst hgr
      have hb0 : 0 ≤ (t : Int) * c.size ∧ (t : Int) * c.size ≤ 1254 := by
        rcases (by omega : t = 0 ∨ t = 1 ∨ t = 2 ∨ t = 3) with rfl | rfl | rfl | rfl <;> (simp <;> omega)
      have hnext : Hid (((t + 1 : Nat) : Int) * c.size = (t : Int) * c.size + c.size) := by rw [Hid, Int.natCast_add, Int.add_mul]; simp
      have pa := fun (k : Nat) (hk : k < 4) => pl_a (c := c) ht0 ht1 hk
      have pb := fun (k : Nat) (hk : k < 4) (i : Int) (hi : 0 ≤ i) (hn : i < c.many (4 + k)) => pl_b (c := c) ht0 ht1 hk hi hn
      have pc := fun (s : Int) (h1 : 1 ≤ s) (h2 : s ≤ c.sl) => pl_c (c := c) ht0 ht1 h1 h2
      have pd := fun (s j : Int) (h1 : 1 ≤ s) (h2 : s ≤ c.sl) (h3 : 0 ≤ j) (h4 : j < 5) => pl_d (c := c) ht0 ht1 h1 h2 h3 h4
      generalize (t : Int) * c.size = b at *
      have pa : Hid _ := pa
      have pb : Hid _ := pb
      have pc : Hid _ := pc
      have pd : Hid _ := pd
      have z0 := keep_below k0 hbr
      have hzR := block_lt_of_cell z0
      go_wp2_with fail
      go_loopg [3, 5] 4 (fun gk l k wr => ∃ (k' Q : Nat) (A' : Option Addr) (c' : Nat), k' + gk = 4 ∧ k = .int .i64 k' ∧ l = .slice A' Q c' ∧ Hid ((Q : Int) = b + k') ∧ wr.ownsRow W0.heap.size 66 4 (.slice A' Q c') Q ((wl c Q).flatMap plc) ∧ Below W0.heap.size W0 wr)
      case atStart => exact ⟨0, Q, A', c', rfl, rfl, rfl, by rw [Hid, hQ.out]; simp, own, hbr⟩
      case round =>
        clear own hbr hQ z0 hzR
        obtain ⟨k, Q, A', c', hk, rfl, rfl, hQ, own, hbr⟩ := hrel
        have hQb : Q < 2000 := by have := hQ.out; omega
        by_cases hlt2 : k < 4
        · have u0 : (0 : Int) ≤ (k : Int) := by omega
          have u1 : (k : Int) < 4 := by omega
          have HS : Hid (wl c (Q + 1) = wl c Q ++ [⟨(t : Int), (k : Int), 0, 0⟩]) := wl_snoc hm (pa.out k hlt2).1 (by rw [(pa.out k hlt2).2]; exact hQ.out)
          have hQm : Q < 2000 := hQb
          go_wp2_with (at_builtin; refine wpList_onto (W0 := W0) (ys := plc ⟨(t : Int), (k : Int), 0, 0⟩) (m := 1) E rfl (.tmp 22) (.tmp 26) rfl (bnew hbr _) rfl (own.alloc _) rfl rfl (Rd.new _ _ _ rfl) (by simp [plc, Value.oneCell']) (by unfold maxLen; omega) (by omega) ?_; intro A8 c8 w8 own8 hb8 _)
          go_roundg (gk - 1)
          case measure => omega
          case rel => exact ⟨k + 1, Q + 1, A8, c8, by omega, by go_num, rfl, by rw [Hid]; have := hQ.out; omega, by rw [HS.out, List.flatMap_append]; exact own8, hb8⟩
        · obtain rfl : k = 4 := by omega
          have z11 := keep_below k11 hbr
          have hzR := block_lt_of_cell z11
          go_wp2_with fail
          obtain ⟨W5, hW5, own5, kb5, rd5, ne5⟩ : ∃ W5, wr.alloc (.cells #[.int .i64 4, .int .i64 2, .int .i64 8, .int .i64 c.li] 3) = W5 ∧ W5.ownsRow W0.heap.size 66 4 (.slice A' Q c') Q ((wl c Q).flatMap plc) ∧ Below W0.heap.size W0 W5 ∧ Rd W5 (some ⟨wr.heap.size, 0, none⟩) [.int .i64 4, .int .i64 2, .int .i64 8, .int .i64 c.li] ∧ (∀ x, (Value.slice A' Q c').ownBlock = some x → x ≠ wr.heap.size) :=
            ⟨_, rfl, own.alloc _, bnew hbr _, Rd.new _ _ _ rfl, fun x hx => by
              have := (own.lt _ hx).2
              omega⟩
          rw [hW5]
          clear hW5
          generalize wr.heap.size = B at *
          have hQ3 : Hid ((Q : Int) = b + c.fst (4 + 0)) := by rw [Hid, hQ.out]; rfl
          go_loopg [3, 7] 4 (fun gk l k wr => ∃ (k' Q : Nat) (A' : Option Addr) (c' : Nat), k' + gk = 4 ∧ k = .int .i64 k' ∧ l = .slice A' Q c' ∧ Hid ((Q : Int) = b + c.fst (4 + k')) ∧ wr.ownsRow W0.heap.size 66 4 (.slice A' Q c') Q ((wl c Q).flatMap plc) ∧ Below W0.heap.size W0 wr ∧ Rd wr (some ⟨B, 0, none⟩) [.int .i64 4, .int .i64 2, .int .i64 8, .int .i64 c.li] ∧ (∀ x, (Value.slice A' Q c').ownBlock = some x → x ≠ B))
          case atStart => exact ⟨0, Q, A', c', rfl, rfl, rfl, hQ3, own5, kb5, rd5, ne5⟩
          case round =>
            clear own hbr hQ z11 hzR own5 kb5 rd5 ne5 hQ3 hQb
            obtain ⟨k, Q, A', c', hk, rfl, rfl, hQ, own, hbr, rd, hne⟩ := hrel
            by_cases hlt3 : k < 4
            · obtain ⟨gs, hgs⟩ : ∃ g, g = gk := ⟨_, rfl⟩
              subst hgs
              have v0 : (0 : Int) ≤ (k : Int) := by omega
              have v1 : (k : Int) < 4 := by omega
              have hmk := hmb (4 + k) (by omega)
              have hfk := hfb (4 + k) (by omega)
              have HF1 : Hid (c.fst (4 + (k + 1)) = c.fst (4 + k) + c.many (4 + k)) := hmf (4 + k) (by omega)
              have rdk : ∀ wr : World, Rd wr (some ⟨B, 0, none⟩) [.int .i64 4, .int .i64 2, .int .i64 8, .int .i64 c.li] → wr.cell? ⟨B, k, none⟩ = some (.int .i64 (c.many (4 + k))) := fun wr rd => by
                have e := rd.some_ k (.int .i64 (c.many (4 + k))) (by rcases (by omega : k = 0 ∨ k = 1 ∨ k = 2 ∨ k = 3) with rfl | rfl | rfl | rfl <;> rfl)
                rw [ad_at] at e
                exact e
              have rdk : Hid _ := rdk
              have pbk : Hid _ := fun i hi hn => pb.out k hlt3 i hi hn
              generalize c.fst (4 + k) = F at *
              generalize c.many (4 + k) = M at *
              obtain ⟨M', rfl⟩ : ∃ M' : Nat, M = (M' : Int) := ⟨M.toNat, by omega⟩
              go_wp2_with fail
              go_loopg [3, 8] M' (fun gk l i wr => ∃ (i' Q : Nat) (A' : Option Addr) (c' : Nat), i' + gk = M' ∧ i = .int .i64 i' ∧ l = .slice A' Q c' ∧ Hid ((Q : Int) = b + F + i') ∧ wr.ownsRow W0.heap.size 66 4 (.slice A' Q c') Q ((wl c Q).flatMap plc) ∧ Below W0.heap.size W0 wr ∧ Rd wr (some ⟨B, 0, none⟩) [.int .i64 4, .int .i64 2, .int .i64 8, .int .i64 c.li] ∧ (∀ x, (Value.slice A' Q c').ownBlock = some x → x ≠ B))
              case atStart => exact ⟨0, Q, A', c', by omega, rfl, rfl, by rw [Hid, hQ.out]; simp, own, hbr, rd, hne⟩
              case round =>
                clear own hbr hQ rd hne
                obtain ⟨i, Q, A', c', hi, rfl, rfl, hQ, own, hbr, rd, hne⟩ := hrel
                have hQb : Q < 2000 := by have := hQ.out; omega
                have ck := rdk.out _ rd
                have hzB := block_lt_of_cell ck
                by_cases hlt4 : i < M'
                · have u0 : (0 : Int) ≤ (i : Int) := by omega
                  have u1 : (i : Int) < (M' : Int) := by omega
                  have HS : Hid (wl c (Q + 1) = wl c Q ++ [⟨(t : Int), (4 : Int) + (k : Int), (i : Int), 0⟩]) := wl_snoc hm (pbk.out (i : Int) u0 u1).1 (by rw [(pbk.out (i : Int) u0 u1).2]; have := hQ.out; omega)
                  have hQm : Q < 2000 := hQb
                  go_wp2_with (at_builtin; refine wpList_app (ys := plc ⟨(t : Int), (4 : Int) + (k : Int), (i : Int), 0⟩) (m := 1) E rfl (.tmp 43) (.tmp 49) rfl W0.heap.size rfl (own.alloc _) rfl rfl (Rd.new _ _ _ rfl) (by simp [plc, Value.oneCell']) (by unfold maxLen; omega) (by omega) (le_new hbr) ?_; intro A8 c8 w8 own8 hg8 ho8)
                  go_roundg (gk - 1)
                  case measure => omega
                  case rel =>
                    refine ⟨i + 1, Q + 1, A8, c8, by omega, by go_num, rfl, by rw [Hid]; have := hQ.out; omega, by rw [HS.out, List.flatMap_append]; exact own8, (bnew hbr _).grown hg8 (le_new hbr) (own_ge own), (rd.alloc _).grown hg8 fun ad had e => ?_, fun x hx => ?_⟩
                    · cases had
                      exact hne _ e.symm rfl
                    · rcases ho8 with h9 | h9
                      · exact hne x (h9.symm.trans hx)
                      · rw [h9] at hx
                        cases hx
                        simp
                        omega
                · obtain rfl : i = M' := by omega
                  go_wp2
                  go_roundg (gs - 1)
                  case measure => omega
                  case rel => exact ⟨k + 1, Q, A', c', by omega, by go_num, rfl, by rw [Hid, HF1.out]; have := hQ.out; omega, own, hbr, rd, hne⟩
            · obtain rfl : k = 4 := by omega
              have hQ5 : Hid ((Q : Int) = b + c.fst 8) := hQ
              have z10 := keep_below k10 hbr
              have hzR := block_lt_of_cell z10
              clear hQ rd hne
              go_wp2_with fail
              go_loopg [3, 9] N (fun gk l s wr => ∃ (k' Q : Nat) (A' : Option Addr) (c' : Nat), k' + gk = N ∧ s = .int .i64 ((k' : Int) + 1) ∧ l = .slice A' Q c' ∧ Hid ((Q : Int) = b + c.fst 8 + k') ∧ wr.ownsRow W0.heap.size 66 4 (.slice A' Q c') Q ((wl c Q).flatMap plc) ∧ Below W0.heap.size W0 wr)
              case atStart => exact ⟨0, Q, A', c', by omega, rfl, rfl, by rw [Hid, hQ5.out]; simp, own, hbr⟩
              case round =>
                clear own hbr hQ5 z10 hzR
                obtain ⟨k, Q, A', c', hk, rfl, rfl, hQ, own, hbr⟩ := hrel
                have z10 := keep_below k10 hbr
                have hzR := block_lt_of_cell z10
                by_cases hlt5 : k < N
                · have u0 : (1 : Int) ≤ (k : Int) + 1 := by omega
                  have u1 : (k : Int) + 1 ≤ c.sl := by rw [HN.out]; omega
                  have hQb : Q < 2000 := by have := hQ.out; omega
                  have HS : Hid (wl c (Q + 1) = wl c Q ++ [⟨(t : Int), 8, (k : Int) + 1, 0⟩]) := wl_snoc hm (pc.out ((k : Int) + 1) u0 u1).1 (by rw [(pc.out ((k : Int) + 1) u0 u1).2]; have := hQ.out; omega)
                  have hQm : Q < 2000 := hQb
                  go_wp2_with (at_builtin; refine wpList_onto (W0 := W0) (ys := plc ⟨(t : Int), 8, (k : Int) + 1, 0⟩) (m := 1) E rfl (.tmp 57) (.tmp 61) rfl (bnew hbr _) rfl (own.alloc _) rfl rfl (Rd.new _ _ _ rfl) (by simp [plc, Value.oneCell']) (by unfold maxLen; omega) (by omega) ?_; intro A8 c8 w8 own8 hb8 _)
                  go_roundg (gk - 1)
                  case measure => omega
                  case rel => exact ⟨k + 1, Q + 1, A8, c8, by omega, by go_num, rfl, by rw [Hid]; have := hQ.out; omega, by rw [HS.out, List.flatMap_append]; exact own8, hb8⟩
                · have hQ6 : Hid ((Q : Int) = b + c.fst 9) := by rw [Hid]; have := hQ.out; have := HN.out; omega
                  have u1 : ¬ (k : Int) + 1 ≤ c.sl := by rw [HN.out]; omega
                  go_wp2_with fail
                  go_loopg [3, 10] N (fun gk l s wr => ∃ (k' Q : Nat) (A' : Option Addr) (c' : Nat), k' + gk = N ∧ s = .int .i64 ((k' : Int) + 1) ∧ l = .slice A' Q c' ∧ Hid ((Q : Int) = b + c.fst 9 + k' * 5) ∧ wr.ownsRow W0.heap.size 66 4 (.slice A' Q c') Q ((wl c Q).flatMap plc) ∧ Below W0.heap.size W0 wr)
                  case atStart => exact ⟨0, Q, A', c', by omega, rfl, rfl, by rw [Hid, hQ6.out]; simp, own, hbr⟩
                  case round =>
                    clear own hbr hQ6 hQ z10 hzR u1 hlt5 hk
                    obtain ⟨k, Q, A', c', hk, rfl, rfl, hQ, own, hbr⟩ := hrel
                    have z10 := keep_below k10 hbr
                    have hzR := block_lt_of_cell z10
                    by_cases hlt6 : k < N
                    · obtain ⟨gs, hgs⟩ : ∃ g, g = gk := ⟨_, rfl⟩
                      subst hgs
                      have u0 : (1 : Int) ≤ (k : Int) + 1 := by omega
                      have u1 : (k : Int) + 1 ≤ c.sl := by rw [HN.out]; omega
                      go_wp2_with fail
                      go_loopg [3, 11] 5 (fun gk l j wr => ∃ (j' Q : Nat) (A' : Option Addr) (c' : Nat), j' + gk = 5 ∧ j = .int .i64 j' ∧ l = .slice A' Q c' ∧ Hid ((Q : Int) = b + c.fst 9 + k * 5 + j') ∧ wr.ownsRow W0.heap.size 66 4 (.slice A' Q c') Q ((wl c Q).flatMap plc) ∧ Below W0.heap.size W0 wr)
                      case atStart => exact ⟨0, Q, A', c', rfl, rfl, rfl, by rw [Hid, hQ.out]; simp, own, hbr⟩
                      case round =>
                        clear own hbr hQ z10 hzR
                        obtain ⟨j, Q, A', c', hj, rfl, rfl, hQ, own, hbr⟩ := hrel
                        by_cases hlt7 : j < 5
                        · have y0 : (0 : Int) ≤ (j : Int) := by omega
                          have y1 : (j : Int) < 5 := by omega
                          have hQb : Q < 2000 := by have := hQ.out; omega
                          have HS : Hid (wl c (Q + 1) = wl c Q ++ [⟨(t : Int), 9, (k : Int) + 1, (j : Int)⟩]) := wl_snoc hm (pd.out ((k : Int) + 1) (j : Int) u0 u1 y0 y1).1 (by rw [(pd.out ((k : Int) + 1) (j : Int) u0 u1 y0 y1).2]; have := hQ.out; omega)
                          have hQm : Q < 2000 := hQb
                          go_wp2_with (at_builtin; refine wpList_onto (W0 := W0) (ys := plc ⟨(t : Int), 9, (k : Int) + 1, (j : Int)⟩) (m := 1) E rfl (.tmp 73) (.tmp 78) rfl (bnew hbr _) rfl (own.alloc _) rfl rfl (Rd.new _ _ _ rfl) (by simp [plc, Value.oneCell']) (by unfold maxLen; omega) (by omega) ?_; intro A8 c8 w8 own8 hb8 _)
                          go_roundg (gk - 1)
                          case measure => omega
                          case rel => exact ⟨j + 1, Q + 1, A8, c8, by omega, by go_num, rfl, by rw [Hid]; have := hQ.out; omega, by rw [HS.out, List.flatMap_append]; exact own8, hb8⟩
                        · obtain rfl : j = 5 := by omega
                          go_wp2
                          go_roundg (gs - 1)
                          case measure => omega
                          case rel => exact ⟨k + 1, Q, A', c', by omega, by go_num, rfl, by rw [Hid]; have := hQ.out; omega, own, hbr⟩
                    · have u1 : ¬ (k : Int) + 1 ≤ c.sl := by rw [HN.out]; omega
                      go_wp2
                      go_roundg (gr - 1)
                      case measure => omega
                      case rel => exact ⟨t + 1, Q, A', c', by omega, by go_num, rfl, by rw [Hid, hnext.out]; have := hQ.out; have := HN.out; omega, own, hbr⟩
    · obtain rfl : t = L := by omega
      have HQ : Hid ((c.lv * c.size).toNat = Q) := by rw [Hid, HL.out, ← hQ.out]; omega
      have z0 := keep_below k0 hbr
      have hzR := block_lt_of_cell z0
      have u1 : ¬ (t : Int) < c.lv := by rw [HL.out]; omega
      have hz := kb.size
      clear hSz hf8 hf9 hmf
      go_wp2
      go_ret
      exact ⟨A', c', by rw [HQ.out]; rfl, by rw [HQ.out]; exact own_base own hz, bnext kb hbr⟩
end Go.Proofs.Ytpnhpiniflcciaa
