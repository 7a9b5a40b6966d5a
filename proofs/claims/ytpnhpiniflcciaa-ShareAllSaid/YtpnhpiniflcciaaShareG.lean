/- The law ShareAll, walked. -/
import Derived.Test.YtpnhpiniflcciaaShareE
import Derived.Test.YtpnhpiniflcciaaShareF
namespace Go.Proofs.Ytpnhpiniflcciaa
set_option linter.unusedVariables false
set_option linter.unusedSimpArgs false
open Go.RowKit

/-- The array 'next'. -/
structure NextBox (wr : World) (B : Nat) (f : Nat → Nat) : Prop where
  cell : ∀ j, j < 16 → wr.cell? ⟨B, j, none⟩ = some (.int .i64 (f j))
  fro : ∀ j, j < 16 → wr.frozen? ⟨B, j, none⟩ = false
  lt : B < wr.heap.size
theorem NextBox.below {w w' : World} {B : Nat} {f : Nat → Nat} (h : NextBox w B f) (hb : Below w.heap.size w w') : NextBox w' B f :=
  ⟨fun j hj => keep_below (h.cell j hj) hb, fun j hj => keep_frozen (h.fro j hj) h.lt hb, Nat.lt_of_lt_of_le h.lt hb.size⟩
theorem NextBox.set {w : World} {B : Nat} {f g : Nat → Nat} (h : NextBox w B f) {k : Nat} (hk : k < 16) (hg : ∀ j, j < 16 → g j = if j = k then f k + 1 else f j) {v : Value} (hv : v = .int .i64 ((f k + 1 : Nat) : Int)) : NextBox (w.setCell ⟨B, k, none⟩ v) B g := by
  refine ⟨fun j hj => ?_, fun j hj => by rw [World.frozen?_setCell]; exact h.fro j hj, by simpa using h.lt⟩
  rw [hg j hj]
  by_cases hjk : j = k
  · subst hjk
    rw [if_pos rfl, hv]
    have := h.cell j hj
    go_simp
  · rw [if_neg hjk, World.cell?_setCell_other _ _ _ _ (fun e => hjk (by simpa using (congrArg Addr.off e).symm))]
    exact h.cell j hj

set_option maxHeartbeats 4000000 in
set_option maxRecDepth 100000 in
theorem shareall_walk {A : Option Addr} {n c : Nat} {l : List Opr} {w : World} (h : Sl oc w A n c l) (hn : n ≤ 100) :
    Calls Try.prog 4 #[.slice A n c] w fun e w' => e = .returned (.bool true) ∧ Below w.heap.size w w' := by
  have hj16 : ∀ j, j < 16 → j = 0 ∨ j = 1 ∨ j = 2 ∨ j = 3 ∨ j = 4 ∨ j = 5 ∨ j = 6 ∨ j = 7 ∨ j = 8 ∨ j = 9 ∨ j = 10 ∨ j = 11 ∨ j = 12 ∨ j = 13 ∨ j = 14 ∨ j = 15 := fun j hj => by omega
  go_enter Try.func4, Try.ntmps4
  go_wp2_with fail
  refine (all_any h (by omega)).mono ?_
  rintro e w1 ⟨As, cs, rfl, hs1, hb1⟩
  go_upto_region 4 with (fail)
  obtain ⟨W0, hW0, hcell, hs, hlw, hb0⟩ : ∃ W0, w1.alloc (.cells #[.slice (As 0) (sh l 0).length (cs 0), .slice (As 1) (sh l 1).length (cs 1), .slice (As 2) (sh l 2).length (cs 2), .slice (As 3) (sh l 3).length (cs 3), .slice (As 4) (sh l 4).length (cs 4), .slice (As 5) (sh l 5).length (cs 5), .slice (As 6) (sh l 6).length (cs 6), .slice (As 7) (sh l 7).length (cs 7), .slice (As 8) (sh l 8).length (cs 8), .slice (As 9) (sh l 9).length (cs 9), .slice (As 10) (sh l 10).length (cs 10), .slice (As 11) (sh l 11).length (cs 11), .slice (As 12) (sh l 12).length (cs 12), .slice (As 13) (sh l 13).length (cs 13), .slice (As 14) (sh l 14).length (cs 14), .slice (As 15) (sh l 15).length (cs 15)] 39) = W0 ∧ (∀ j, j < 16 → W0.cell? ⟨w1.heap.size, j, none⟩ = some (.slice (As j) (sh l j).length (cs j))) ∧ (∀ j, j < 16 → Sl oc W0 (As j) (sh l j).length (cs j) (sh l j)) ∧ Sl oc W0 A n c l ∧ Below w.heap.size w W0 :=
    ⟨_, rfl, fun j hj => by rcases hj16 j hj with rfl | rfl | rfl | rfl | rfl | rfl | rfl | rfl | rfl | rfl | rfl | rfl | rfl | rfl | rfl | rfl <;> go_simp, fun j hj => (hs1 j hj).alloc _, h.below (bnew hb1 _), bnew hb1 _⟩
  rw [hW0]
  clear hW0 hs1 hb1
  generalize w1.heap.size = B3 at *
  have hln : l.length = n := h.len
  have HLN : Hid (l.length = n) := hln
  clear h hln
  go_wp2_with fail
  go_loopg [4, 5] 16 (fun gk many i wr => ∃ (k M : Nat), k + gk = 16 ∧ i = .int .i64 k ∧ many = .int .i64 M ∧ Hid (M = cnt l k) ∧ M ≤ 100 * k ∧ Below W0.heap.size W0 wr)
  case atStart => exact ⟨0, 0, by omega, rfl, rfl, rfl, by omega, brefl W0⟩
  case round =>
    obtain ⟨k, M, hk, rfl, rfl, hM, hM1, hbr⟩ := hrel
    by_cases hlt : k < 16
    · have ck := keep_below (hcell k hlt) hbr
      have b0 : (0 : Int) ≤ (k : Int) := by omega
      have b1 : (k : Int) < 16 := by omega
      have b2 : k < 16 := hlt
      have hof := of_any (w := wr.drew) (hlw.below hbr).drew (by omega) ((k : Int) / 4) ((k : Int) % 4)
      have sk := (hs k hlt).below hbr
      have hlen : (sh l k).length ≤ 100 := by
        have h1 := List.length_filter_le (inShare ((k : Int) / 4) ((k : Int) % 4)) l
        have h2 := HLN.out
        unfold sh
        omega
      have hM2 : Hid (M + (sh l k).length = cnt l (k + 1)) := by rw [Hid, hM.out]; rfl
      have hshk : Hid (sh l k = l.filter (inShare ((k : Int) / 4) ((k : Int) % 4))) := rfl
      obtain ⟨L, hL⟩ : ∃ L, sh l k = L := ⟨_, rfl⟩
      rw [← hshk.out] at hof
      rw [hL] at ck hof sk hlen hM2
      clear hL hshk hcell hs hlw
      go_wp2_with fail
      have hX := @Ext.cell wr
      have hzz0 := block_lt_of_cell ck
      refine wp_region_noPanic ?_
      refine wp_region_plan (fun w' => ∃ x : Ext wr, w' = x.w) [([0, 1, 2, 3, 4, 5, 6, 7], 8), ([], 9)] [10] (by kernel_rfl) (by kernel_rfl) (by kernel_rfl) (fun _ _ _ _ _ h => h) ⟨⟨_, (brefl wr).drew⟩, rfl⟩ ?_
      refine wpPlan_cons ?_
      simp only [pickOps, List.getElem?_cons_succ, List.getElem?_cons_zero, Option.elim_some]
      repeat (go_big_quiet_step (fail))
      refine wpQuiet_nil ?_
      refine planAct_some (fun K hK => ?_)
      go_simp
      refine (hof).mono ?_
      rintro e wa ⟨Aa, ca, rfl, owna, hba⟩
      go_wp2_with fail
      refine hK.out _ _ ⟨⟨_, (bnext (brefl wr).drew hba)⟩, rfl⟩ ?_
      clear hK K
      refine wpPlan_cons ?_
      simp only [pickOps, List.getElem?_cons_succ, List.getElem?_cons_zero, Option.elim_some]
      repeat (go_big_quiet_step (fail))
      refine wpQuiet_nil ?_
      refine planAct_some (fun K hK => ?_)
      go_simp
      refine (opersame_any (sk.below (bnext (brefl wr).drew hba)) (Sl.of_own oc_len (by decide) owna) (by omega)).mono ?_
      rintro e wb ⟨rfl, dd, rfl⟩
      go_wp2_with fail
      refine hK.out _ _ ⟨⟨_, (below_drewN (bnext (brefl wr).drew hba) dd)⟩, rfl⟩ ?_
      clear hK K
      refine wpPlan_last ?_
      simp only [pickOps, List.getElem?_cons_succ, List.getElem?_cons_zero, Option.elim_some]
      repeat (go_big_quiet_step (fail))
      refine wpQuiet_nil ?_
      refine NoPanic.normal ?_
      clear hX hzz0
      have hfin := below_drewN (bnext (brefl wr).drew hba) dd
      go_wp2
      go_roundg (gk - 1)
      case measure => omega
      case rel => exact ⟨k + 1, M + L.length, by omega, by go_num, by go_num, hM2, by omega, bnext hbr hfin⟩
    · obtain rfl : k = 16 := by omega
      have hMo : M = oks l := by rw [hM.out, cnt_all]
      subst hMo
      clear hM
      go_upto_region 12 with (fail)
      obtain ⟨W2, hW2, nb0, hb2⟩ : ∃ W2, wr.alloc (.cells #[.int .i64 0, .int .i64 0, .int .i64 0, .int .i64 0, .int .i64 0, .int .i64 0, .int .i64 0, .int .i64 0, .int .i64 0, .int .i64 0, .int .i64 0, .int .i64 0, .int .i64 0, .int .i64 0, .int .i64 0, .int .i64 0] 41) = W2 ∧ NextBox W2 wr.heap.size (fun j => (sh (l.take 0) j).length) ∧ Below W0.heap.size W0 W2 :=
        ⟨_, rfl, ⟨fun j hj => by rcases hj16 j hj with rfl | rfl | rfl | rfl | rfl | rfl | rfl | rfl | rfl | rfl | rfl | rfl | rfl | rfl | rfl | rfl <;> go_simp <;> simp [sh], fun j hj => by rcases hj16 j hj with rfl | rfl | rfl | rfl | rfl | rfl | rfl | rfl | rfl | rfl | rfl | rfl | rfl | rfl | rfl | rfl <;> go_simp, by simp⟩, bnew hbr _⟩
      rw [hW2]
      clear hW2
      have hB6 : W0.heap.size ≤ wr.heap.size := hbr.size
      generalize wr.heap.size = B6 at *
      have hO := oks_le l
      have hO2 : oks l ≤ 100 := by have := HLN.out; omega
      generalize hOK : oks l = O at *
      have HOK : Hid (oks l = O) := hOK
      clear hOK hO hM1 hbr hj16
      go_wp2_with fail
      go_loopg [7, 8] n (fun gk inn i wr => ∃ (k I : Nat), k + gk = n ∧ i = .int .i64 k ∧ inn = .int .i64 I ∧ Hid (I = oks (l.take k)) ∧ I ≤ k ∧ NextBox wr B6 (fun j => (sh (l.take k) j).length) ∧ Below W0.heap.size W0 wr)
      case atStart => exact ⟨0, 0, by omega, rfl, rfl, rfl, by omega, nb0, hb2⟩
      case round =>
        obtain ⟨k, I, hk, rfl, rfl, hI, hI1, nb, hbr⟩ := hrel
        by_cases hlt : k < n
        · obtain ⟨b, o, rfl, _, hc⟩ := hlw.base oc_len (by decide) (by omega)
          obtain ⟨x, hx⟩ : ∃ x, l[k]? = some x := ⟨_, List.getElem?_eq_getElem (by rw [HLN.out]; exact hlt)⟩
          have c0 : wr.cell? ⟨b, o + k * 16, none⟩ = some (.int .i64 x.th) := keep_below (by have h0 := hc k x 0 _ hx rfl; simpa [Nat.add_assoc] using h0) hbr
          have c1 : wr.cell? ⟨b, o + k * 16 + 1, none⟩ = some (.int .i64 x.op) := keep_below (by have h0 := hc k x 1 _ hx rfl; simpa [Nat.add_assoc] using h0) hbr
          have c2 : wr.cell? ⟨b, o + k * 16 + 2, none⟩ = some (.int .i64 x.lv) := keep_below (by have h0 := hc k x 2 _ hx rfl; simpa [Nat.add_assoc] using h0) hbr
          have c3 : wr.cell? ⟨b, o + k * 16 + 3, none⟩ = some (.int .i64 x.key) := keep_below (by have h0 := hc k x 3 _ hx rfl; simpa [Nat.add_assoc] using h0) hbr
          have c4 : wr.cell? ⟨b, o + k * 16 + 4, none⟩ = some (.int .u64 x.a) := keep_below (by have h0 := hc k x 4 _ hx rfl; simpa [Nat.add_assoc] using h0) hbr
          have c5 : wr.cell? ⟨b, o + k * 16 + 5, none⟩ = some (.int .u64 x.b) := keep_below (by have h0 := hc k x 5 _ hx rfl; simpa [Nat.add_assoc] using h0) hbr
          have c6 : wr.cell? ⟨b, o + k * 16 + 6, none⟩ = some (.int .u64 x.h) := keep_below (by have h0 := hc k x 6 _ hx rfl; simpa [Nat.add_assoc] using h0) hbr
          have c7 : wr.cell? ⟨b, o + k * 16 + 7, none⟩ = some (.int .i64 x.rg) := keep_below (by have h0 := hc k x 7 _ hx rfl; simpa [Nat.add_assoc] using h0) hbr
          have c8 : wr.cell? ⟨b, o + k * 16 + 8, none⟩ = some (.int .i64 x.er) := keep_below (by have h0 := hc k x 8 _ hx rfl; simpa [Nat.add_assoc] using h0) hbr
          have c9 : wr.cell? ⟨b, o + k * 16 + 9, none⟩ = some (.int .u64 x.ra) := keep_below (by have h0 := hc k x 9 _ hx rfl; simpa [Nat.add_assoc] using h0) hbr
          have c10 : wr.cell? ⟨b, o + k * 16 + 10, none⟩ = some (.int .u64 x.rb) := keep_below (by have h0 := hc k x 10 _ hx rfl; simpa [Nat.add_assoc] using h0) hbr
          have c11 : wr.cell? ⟨b, o + k * 16 + 11, none⟩ = some (.int .u64 x.rh) := keep_below (by have h0 := hc k x 11 _ hx rfl; simpa [Nat.add_assoc] using h0) hbr
          have c12 : wr.cell? ⟨b, o + k * 16 + 12, none⟩ = some (.int .i64 x.n) := keep_below (by have h0 := hc k x 12 _ hx rfl; simpa [Nat.add_assoc] using h0) hbr
          have c13 : wr.cell? ⟨b, o + k * 16 + 13, none⟩ = some (.int .i64 x.k) := keep_below (by have h0 := hc k x 13 _ hx rfl; simpa [Nat.add_assoc] using h0) hbr
          have c14 : wr.cell? ⟨b, o + k * 16 + 14, none⟩ = some (.int .i64 x.fr) := keep_below (by have h0 := hc k x 14 _ hx rfl; simpa [Nat.add_assoc] using h0) hbr
          have c15 : wr.cell? ⟨b, o + k * 16 + 15, none⟩ = some (.int .i64 x.fin) := keep_below (by have h0 := hc k x 15 _ hx rfl; simpa [Nat.add_assoc] using h0) hbr
          have b0 : (0 : Int) ≤ (k : Int) := by omega
          have b1 : (k : Int) < (n : Int) := by omega
          have hcl := which_any x
          have hzb : b < wr.heap.size := block_lt_of_cell c0
          have hz6 : B6 < wr.heap.size := nb.lt
          have hX : Hid (l[k]? = some x) := hx
          clear hc hx
          cases hok : whichOk x with
          | false =>
            have hI2 : Hid (I = oks (l.take (k + 1))) := by rw [Hid, oks_step hX.out, hok, hI.out]; rfl
            have hN2 : Hid (∀ j, j < 16 → (sh (l.take (k + 1)) j).length = (sh (l.take k) j).length) := fun j hj => by rw [sh_step hX.out hj, hok]; simp
            rw [hok] at hcl
            clear hok
            generalize whichN x = N at *
            go_wp2_with (go_at_call 14; refine (hcl _).mono ?_; rintro e wa ⟨rfl, hba⟩)
            go_roundg (gk - 1)
            case measure => omega
            case rel =>
              have nb2 := nb.below hba
              exact ⟨k + 1, I, by omega, by go_num, rfl, hI2, by omega, ⟨fun j hj => by rw [hN2.out j hj]; exact nb2.cell j hj, nb2.fro, nb2.lt⟩, bnext hbr hba⟩
          | true =>
            have hI2 : Hid (I + 1 = oks (l.take (k + 1))) := by rw [Hid, oks_step hX.out, hok, hI.out]; rfl
            obtain ⟨r1, r2⟩ := which_range x hok
            obtain ⟨j, hj⟩ : ∃ j : Nat, whichN x = (j : Int) := ⟨(whichN x).toNat, by omega⟩
            have hj16 : j < 16 := by omega
            have hN2 : Hid (∀ i, i < 16 → (sh (l.take (k + 1)) i).length = if i = j then (sh (l.take k) j).length + 1 else (sh (l.take k) i).length) := fun i hi => by
              rw [sh_step hX.out hi, hok, hj]
              by_cases hij : i = j
              · rw [if_pos hij, if_pos ⟨rfl, by rw [hij]⟩, hij]
              · rw [if_neg hij, if_neg (by omega), Nat.add_zero]
            have hat := sh_at hX.out hj16 hok hj
            rw [hok, hj] at hcl
            clear hok hj r1 r2
            have cj := keep_below (hcell j hj16) hbr
            have sj := (hs j hj16).below hbr
            have cn := nb.cell j hj16
            have fn := nb.fro j hj16
            have hql : (sh (l.take k) j).length < (sh l j).length := (List.getElem?_eq_some_iff.1 hat).1
            obtain ⟨q, hq0⟩ : ∃ q, (sh (l.take k) j).length = q := ⟨_, rfl⟩
            have HQ : Hid ((sh (l.take k) j).length = q) := hq0
            (try dsimp only at cn)
            rw [hq0] at cn hat hql
            obtain ⟨m, hm0⟩ : ∃ m, (sh l j).length = m := ⟨_, rfl⟩
            rw [hm0] at cj sj hql
            have HM : Hid ((sh l j).length = m) := hm0
            have hq100 : q ≤ 100 := by
              have h1 : (sh (l.take k) j).length ≤ (l.take k).length := List.length_filter_le _ _
              rw [List.length_take] at h1
              omega
            obtain ⟨bj, oj, hAj, hbj, hcj⟩ := sj.base oc_len (by decide) (by omega)
            rw [hAj] at cj
            have e0 : wr.cell? ⟨bj, oj + q * 16, none⟩ = some (.int .i64 x.th) := by have h0 := hcj q x 0 _ hat rfl; simpa [Nat.add_assoc] using h0
            have e1 : wr.cell? ⟨bj, oj + q * 16 + 1, none⟩ = some (.int .i64 x.op) := by have h0 := hcj q x 1 _ hat rfl; simpa [Nat.add_assoc] using h0
            have e2 : wr.cell? ⟨bj, oj + q * 16 + 2, none⟩ = some (.int .i64 x.lv) := by have h0 := hcj q x 2 _ hat rfl; simpa [Nat.add_assoc] using h0
            have e3 : wr.cell? ⟨bj, oj + q * 16 + 3, none⟩ = some (.int .i64 x.key) := by have h0 := hcj q x 3 _ hat rfl; simpa [Nat.add_assoc] using h0
            have e4 : wr.cell? ⟨bj, oj + q * 16 + 4, none⟩ = some (.int .u64 x.a) := by have h0 := hcj q x 4 _ hat rfl; simpa [Nat.add_assoc] using h0
            have e5 : wr.cell? ⟨bj, oj + q * 16 + 5, none⟩ = some (.int .u64 x.b) := by have h0 := hcj q x 5 _ hat rfl; simpa [Nat.add_assoc] using h0
            have e6 : wr.cell? ⟨bj, oj + q * 16 + 6, none⟩ = some (.int .u64 x.h) := by have h0 := hcj q x 6 _ hat rfl; simpa [Nat.add_assoc] using h0
            have e7 : wr.cell? ⟨bj, oj + q * 16 + 7, none⟩ = some (.int .i64 x.rg) := by have h0 := hcj q x 7 _ hat rfl; simpa [Nat.add_assoc] using h0
            have e8 : wr.cell? ⟨bj, oj + q * 16 + 8, none⟩ = some (.int .i64 x.er) := by have h0 := hcj q x 8 _ hat rfl; simpa [Nat.add_assoc] using h0
            have e9 : wr.cell? ⟨bj, oj + q * 16 + 9, none⟩ = some (.int .u64 x.ra) := by have h0 := hcj q x 9 _ hat rfl; simpa [Nat.add_assoc] using h0
            have e10 : wr.cell? ⟨bj, oj + q * 16 + 10, none⟩ = some (.int .u64 x.rb) := by have h0 := hcj q x 10 _ hat rfl; simpa [Nat.add_assoc] using h0
            have e11 : wr.cell? ⟨bj, oj + q * 16 + 11, none⟩ = some (.int .u64 x.rh) := by have h0 := hcj q x 11 _ hat rfl; simpa [Nat.add_assoc] using h0
            have e12 : wr.cell? ⟨bj, oj + q * 16 + 12, none⟩ = some (.int .i64 x.n) := by have h0 := hcj q x 12 _ hat rfl; simpa [Nat.add_assoc] using h0
            have e13 : wr.cell? ⟨bj, oj + q * 16 + 13, none⟩ = some (.int .i64 x.k) := by have h0 := hcj q x 13 _ hat rfl; simpa [Nat.add_assoc] using h0
            have e14 : wr.cell? ⟨bj, oj + q * 16 + 14, none⟩ = some (.int .i64 x.fr) := by have h0 := hcj q x 14 _ hat rfl; simpa [Nat.add_assoc] using h0
            have e15 : wr.cell? ⟨bj, oj + q * 16 + 15, none⟩ = some (.int .i64 x.fin) := by have h0 := hcj q x 15 _ hat rfl; simpa [Nat.add_assoc] using h0
            have d0 : (0 : Int) ≤ (j : Int) := by omega
            have d1 : ¬ (15 : Int) < (j : Int) := by omega
            have d2 : (j : Int) < 16 := by omega
            have d3 : ¬ (j : Int) < 0 := by omega
            have d4 : ¬ (m : Int) ≤ (q : Int) := by omega
            have d5 : (q : Int) < (m : Int) := by omega
            have d6 : (0 : Int) ≤ (q : Int) := by omega
            have hne := neq_o x
            have hzj : bj < wr.heap.size := block_lt_of_cell e0
            have hz3 : B3 < wr.heap.size := block_lt_of_cell cj
            clear hq0 hm0 hat sj hcj hAj hbj
            go_wp2_with (go_at_call 14; refine (hcl _).mono ?_; rintro e wa ⟨rfl, hba⟩; obtain ⟨hca, hfa, hza⟩ := bcell hba)
            go_quiet (fail)
            go_wp2
            go_roundg (gk - 1)
            case measure => omega
            case rel =>
              have nb2 := (nb.below hba)
              refine ⟨k + 1, I + 1, by omega, by go_num, by go_num, hI2, by omega, ?_, bset (below_drewN (bnext hbr hba) _) (by exact hB6) _⟩
              refine NextBox.set (w := wa.drewN nq) (f := fun i => (sh (l.take k) i).length) ⟨nb2.cell, nb2.fro, nb2.lt⟩ hj16 (fun i hi => hN2.out i hi) ?_
              (try dsimp only)
              have hqq : (sh (l.take k) j).length = q := HQ.out
              rw [hqq]
              go_num
        · obtain rfl : k = n := by omega
          have hIO : I = O := by rw [hI.out, List.take_of_length_le (by rw [HLN.out]; omega), HOK.out]
          subst hIO
          clear hI HOK
          have hge : ¬ ((k : Int) < (k : Int)) := by omega
          go_wp2_with (go_at_call 13; refine (lives15 _).mono ?_; rintro e w4 ⟨rfl, hb4⟩)
          go_ret
          exact ⟨rfl, bnext (bnext hb0 hbr) hb4⟩

theorem shareall_any {A : Option Addr} {n c : Nat} {l : List Opr} {w : World} (h : Sl oc w A n c l) (h1 : c ≤ maxLen) :
    Calls Try.prog 4 #[.slice A n c] w fun e w' => e = .returned (.bool true) ∧ Below w.heap.size w w' := by
  unfold maxLen at h1
  have e1 := h.cap
  by_cases hn : n ≤ 100
  · exact shareall_walk h hn
  · have t1 : (100 : Int) < (n : Int) := by omega
    have t2 : n ≤ 9223372036854775807 := by omega
    clear h h1
    go_enter Try.func4, Try.ntmps4
    go_wp2_with (go_at_call 13; refine (lives15 _).mono ?_; rintro e w5 ⟨rfl, hb5⟩)
    go_ret
    exact ⟨rfl, hb5⟩
end Go.Proofs.Ytpnhpiniflcciaa
