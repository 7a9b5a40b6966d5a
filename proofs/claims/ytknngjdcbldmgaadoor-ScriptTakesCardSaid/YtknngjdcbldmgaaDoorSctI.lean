/- The law ScriptTakes. -/
import Derived.Test.YtknngjdcbldmgaaDoorSctH
namespace Go.Proofs.YtknngjdcbldmgaaDoor
set_option linter.unusedVariables false
set_option linter.unusedSimpArgs false
open Go.RowKit

def Take2R (w : World) (s : Scr) (m : Int) (e : Ending) (w' : World) : Prop := Below w.heap.size w w' ∧ ∃ us EA ec ev, e = .returned (.tuple #[.agg (scc s.c us (.slice EA s.es.length ec)).toArray, ev]) ∧ PIn (fun _ => False) w' us s.ps ∧ Sl enc_ w' EA s.es.length ec s.es ∧ ErrAt w' ev m ∧ (∀ l, l ∈ s.ps → l.length ≤ 40) ∧ s.es.length ≤ 60000
def RTake2R (w : World) (s : Scr) (m : Int) (e : Ending) (w' : World) : Prop := Below w.heap.size w w' ∧ ∃ us EA ec, e = .returned (.tuple #[.agg (scc s.c us (.slice EA s.es.length ec)).toArray, .int .i64 m]) ∧ PIn (fun _ => False) w' us s.ps ∧ Sl enc_ w' EA s.es.length ec s.es
set_option maxHeartbeats 4000000 in
set_option maxRecDepth 100000 in
theorem scripttakes_any {w : World} {A : Option Addr} {n c : Nat} {l : List Int} (hS : Sl b8l w A n c l) (hb : ∀ x, x ∈ l → 0 ≤ x ∧ x < 256) (hg : GV w) : Calls Tryd.prog 5 #[.slice A n c] w fun e w' => e = .returned (.bool true) ∧ Below w.heap.size w w' := by
  have hn := hS.len
  by_cases h1 : 5000 < n ∧ n < 60000
  · obtain ⟨h1a, h1b⟩ := h1
    have t1 : (5000 : Int) < (n : Int) := by omega
    have t2 : (n : Int) < 60000 := by omega
    clear hS hb
    go_enter Tryd.func5, Tryd.ntmps5
    go_wp2_with (go_at_call 8; refine (lives18 _).mono ?_; rintro e w2 ⟨rfl, hb2⟩)
    go_ret
    exact ⟨rfl, hb2⟩
  · by_cases h2 : 61000 < n
    · have t1 : (5000 : Int) < (n : Int) := by omega
      have t2 : decide ((n : Int) < 60000) = false := decide_eq_false (by omega)
      have t3 : (61000 : Int) < (n : Int) := by omega
      clear hS hb
      go_enter Tryd.func5, Tryd.ntmps5
      go_wp2_with (go_at_call 8; refine (lives18 _).mono ?_; rintro e w2 ⟨rfl, hb2⟩)
      go_ret
      exact ⟨rfl, hb2⟩
    · have hl : l.length ≤ 900000 := by omega
      have t3 : decide ((61000 : Int) < (n : Int)) = false := decide_eq_false (by omega)
      have hT1 := stake_any hS hb hl
      have HT2 := Lib.hid (fun W (hW : Below w.heap.size w W) => rtake_any (hS.below hW) hb hl)
      have HG := Lib.hid hg
      obtain ⟨b2, ht2⟩ : ∃ b, decide ((5000 : Int) < (n : Int)) = b := ⟨_, rfl⟩
      have ht4 : (b2 = true → decide ((n : Int) < 60000) = false) := fun q => by rw [q] at ht2; have := of_decide_eq_true ht2; exact decide_eq_false (by omega)
      have hbb : b2 = true ∨ b2 = false := by cases b2 <;> simp
      obtain ⟨s, m, HT1, HT2⟩ : ∃ (s : Scr) (m : Int), Hid (Calls Tryd.prog 18 #[.slice A n c] w (Take2R w s m)) ∧ Hid (∀ W, Below w.heap.size w W → Calls Tryd.prog 19 #[.slice A n c] W (RTake2R W s m)) := by
        cases hx : pScript l with
        | error m =>
          rw [hx] at hT1 HT2
          exact ⟨⟨cf0, nilP, []⟩, m, hT1.mono fun e w' ⟨a, ev, b, d⟩ => ⟨a, nil8, none, 0, ev, b, PIn.none_ _ _, ⟨rfl, Nat.le_refl _, Rd.nil _ _, fun _ => ⟨rfl, rfl⟩⟩, d, fun l hl => by
            have : l = [] := by simpa [nilP] using hl
            subst this
            exact Nat.zero_le _, Nat.zero_le _⟩, fun W hW => (HT2.out W hW).mono fun e w' ⟨a, b⟩ => ⟨a, nil8, none, 0, b, PIn.none_ _ _, ⟨rfl, Nat.le_refl _, Rd.nil _ _, fun _ => ⟨rfl, rfl⟩⟩⟩⟩
        | ok s =>
          rw [hx] at hT1 HT2
          exact ⟨s, 0, hT1.mono fun e w' ⟨a, us, EA, ec, b, d, f, g, h, i⟩ => ⟨a, us, EA, ec, .nilIface, b, d.weak (fun _ h => h.elim), f, .inl ⟨rfl, rfl⟩, h, i⟩, fun W hW => (HT2.out W hW).mono fun e w' ⟨a, us, EA, ec, b, d, f⟩ => ⟨a, us, EA, ec, b, d.weak (fun _ h => h.elim), f⟩⟩
      clear hT1 hS hb hg h1 h2
      rcases hbb with rfl | rfl
      · have ht5 := ht4 rfl
        clear ht4
        go_enter Tryd.func5, Tryd.ntmps5
        have tok1 : True := trivial
        have tok2 : True := trivial
        go_upto_region 4 with (first | (have _t := tok1; go_at_call 18; refine HT1.out.mono ?_; rintro e w1 ⟨hb1, us1, EA1, ec1, ev, rfl, P1, S1, hv, h4, h5⟩; have h81 := P1.u8; have hi1 := info_scc (c := s.c) (us := us1) (ev := .slice EA1 s.es.length ec1) h81; have hold1 : (#[.int .i64 0, .int .i64 0, .int .i64 0, .int .i64 0, .int .i64 0, .int .i64 0, .int .i64 0, .int .i64 0, .int .i64 0, .int .i64 0, .int .i64 0, .int .i64 0, .int .i64 0, .int .i64 0, .slice none 0 0, .slice none 0 0, .slice none 0 0, .slice none 0 0, .slice none 0 0, .slice none 0 0, .slice none 0 0, .slice none 0 0, .slice none 0 0] : Array Value).size = (scc s.c us1 (.slice EA1 s.es.length ec1)).toArray.size := (by show 23 = _; rw [List.size_toArray, scc_len h81]); have hone1 := scc_one (c := s.c) P1 EA1 s.es.length ec1; obtain ⟨cs1, hcs1⟩ : ∃ cs, scc s.c us1 (.slice EA1 s.es.length ec1) = cs := ⟨_, rfl⟩; rw [hcs1] at hi1 hold1 hone1; rw [hcs1]; have HCS1 := Lib.hid hcs1; clear hcs1; clear tok1 _t) | (have _t := tok2; refine wpList_store_row (o := ⟨none, .store 29 (.tmp 3) (.tmp 24), _, _, _, _⟩) rfl 29 (.tmp 3) (.tmp 24) rfl w1.heap.size _ rfl rfl 29 _ (Blk.new w1 _ _) hi1 hold1 hone1 ?_; clear tok2 _t))
        try simp only [Act.put]
        obtain ⟨q3, hq3⟩ : ∃ q, w1.heap.size = q := ⟨_, rfl⟩
        obtain ⟨W3, hW3, B1, k1⟩ : ∃ W, (w1.alloc (.cells #[.int .i64 0, .int .i64 0, .int .i64 0, .int .i64 0, .int .i64 0, .int .i64 0, .int .i64 0, .int .i64 0, .int .i64 0, .int .i64 0, .int .i64 0, .int .i64 0, .int .i64 0, .int .i64 0, .slice none 0 0, .slice none 0 0, .slice none 0 0, .slice none 0 0, .slice none 0 0, .slice none 0 0, .slice none 0 0, .slice none 0 0, .slice none 0 0] 29)).setRow w1.heap.size cs1.toArray = W ∧ Blk W q3 29 cs1.toArray ∧ Below w1.heap.size w1 W := by
          have kr := keeps_row (w1.alloc (.cells #[.int .i64 0, .int .i64 0, .int .i64 0, .int .i64 0, .int .i64 0, .int .i64 0, .int .i64 0, .int .i64 0, .int .i64 0, .int .i64 0, .int .i64 0, .int .i64 0, .int .i64 0, .int .i64 0, .slice none 0 0, .slice none 0 0, .slice none 0 0, .slice none 0 0, .slice none 0 0, .slice none 0 0, .slice none 0 0, .slice none 0 0, .slice none 0 0] 29)) w1.heap.size cs1.toArray
          exact ⟨_, rfl, by rw [← hq3]; exact (Blk.new w1 _ _).row _, kr.below (bnew (brefl w1) _) (by simp) (fun x e _ => by have e' : x = w1.heap.size := e; omega)⟩
        rw [hW3]
        try rw [hq3]
        have K1 := bnext (brefl w) (bnext hb1 k1)
        clear hW3 hq3
        have hv3 := hv.below k1
        have tok1 : True := trivial
        have tok2 : True := trivial
        go_upto_region 5 with (first | (have _t := tok1; go_at_call 19; refine (HT2.out _ K1).mono ?_; rintro e w4 ⟨hb2, us2, EA2, ec2, rfl, P2, S2⟩; have h82 := P2.u8; have hi2 := info_scc (c := s.c) (us := us2) (ev := .slice EA2 s.es.length ec2) h82; have hold2 : (#[.int .i64 0, .int .i64 0, .int .i64 0, .int .i64 0, .int .i64 0, .int .i64 0, .int .i64 0, .int .i64 0, .int .i64 0, .int .i64 0, .int .i64 0, .int .i64 0, .int .i64 0, .int .i64 0, .slice none 0 0, .slice none 0 0, .slice none 0 0, .slice none 0 0, .slice none 0 0, .slice none 0 0, .slice none 0 0, .slice none 0 0, .slice none 0 0] : Array Value).size = (scc s.c us2 (.slice EA2 s.es.length ec2)).toArray.size := (by show 23 = _; rw [List.size_toArray, scc_len h82]); have hone2 := scc_one (c := s.c) P2 EA2 s.es.length ec2; obtain ⟨cs2, hcs2⟩ : ∃ cs, scc s.c us2 (.slice EA2 s.es.length ec2) = cs := ⟨_, rfl⟩; rw [hcs2] at hi2 hold2 hone2; rw [hcs2]; have HCS2 := Lib.hid hcs2; clear hcs2; clear tok1 _t) | (have _t := tok2; refine wpList_store_row (o := ⟨none, .store 29 (.tmp 5) (.tmp 29), _, _, _, _⟩) rfl 29 (.tmp 5) (.tmp 29) rfl w4.heap.size _ rfl rfl 29 _ (Blk.new w4 _ _) hi2 hold2 hone2 ?_; clear tok2 _t))
        try simp only [Act.put]
        obtain ⟨q6, hq6⟩ : ∃ q, w4.heap.size = q := ⟨_, rfl⟩
        obtain ⟨W6, hW6, B2, k2⟩ : ∃ W, (w4.alloc (.cells #[.int .i64 0, .int .i64 0, .int .i64 0, .int .i64 0, .int .i64 0, .int .i64 0, .int .i64 0, .int .i64 0, .int .i64 0, .int .i64 0, .int .i64 0, .int .i64 0, .int .i64 0, .int .i64 0, .slice none 0 0, .slice none 0 0, .slice none 0 0, .slice none 0 0, .slice none 0 0, .slice none 0 0, .slice none 0 0, .slice none 0 0, .slice none 0 0] 29)).setRow w4.heap.size cs2.toArray = W ∧ Blk W q6 29 cs2.toArray ∧ Below w4.heap.size w4 W := by
          have kr := keeps_row (w4.alloc (.cells #[.int .i64 0, .int .i64 0, .int .i64 0, .int .i64 0, .int .i64 0, .int .i64 0, .int .i64 0, .int .i64 0, .int .i64 0, .int .i64 0, .int .i64 0, .int .i64 0, .int .i64 0, .int .i64 0, .slice none 0 0, .slice none 0 0, .slice none 0 0, .slice none 0 0, .slice none 0 0, .slice none 0 0, .slice none 0 0, .slice none 0 0, .slice none 0 0] 29)) w4.heap.size cs2.toArray
          exact ⟨_, rfl, by rw [← hq6]; exact (Blk.new w4 _ _).row _, kr.below (bnew (brefl w4) _) (by simp) (fun x e _ => by have e' : x = w4.heap.size := e; omega)⟩
        rw [hW6]
        try rw [hq6]
        have K2 := bnext K1 (bnext hb2 k2)
        clear hW6 hq6
        have k36 := bnext hb2 k2
        have B3 := B1.below_ k36
        have hv6 := hv3.below k36
        have P6 := (P1.below k1).below k36
        have S6 := (S1.below k1).below k36
        have P7 := P2.below k2
        have S7 := S2.below k2
        have HB3 := Lib.hid B3
        have HB6 := Lib.hid B2
        have HCO := Lib.hid (code_any hv6 (HG.out.below K2))
        have HSM := Lib.hid (fun W (hW : Below W6.heap.size W6 W) => same_any (c := s.c) (c2 := s.c) (P6.below hW) (S6.below hW) (P7.below hW) (S7.below hW) (by omega) (by omega) (fun l hl => by have := h4 l hl; omega) (fun l hl => by have := h4 l hl; omega))
        rw [HCS1.out, HCS2.out] at HSM
        have HSB : Hid (sameB s.c s.c s.ps s.ps s.es s.es = true) := same_yes rfl rfl rfl
        rw [HSB.out] at HSM
        clear B1 k1 hv hv3 P1 S1 P2 S2 hb1 hb2 k2 k36 B3 B2 P6 S6 P7 S7 K1 HT1 HT2
        by_cases hm0 : m = 0
        · obtain rfl : ev = .nilIface := hv6.elim (fun q => q.2) (fun q => absurd hm0 q.1)
          subst hm0
          clear hv6
          have tok1 : True := trivial
          have tok2 : True := trivial
          go_wp2_with (first | (go_at_call 11; refine HCO.out.mono ?_; rintro e w7 ⟨rfl, hb7⟩; have D1 := HB3.out.below_ hb7; have D2 := HB6.out.below_ hb7) | (have _t := tok1; refine wpList_load_row_g (o := ⟨some 43, _, _, _, _, _⟩) rfl 29 (.tmp 3) rfl q3 rfl 29 _ _ _ D1 Tryd.underlying29 rfl hi1 ?_; clear tok1 _t) | (have _t := tok2; refine wpList_load_row_g (o := ⟨some 44, _, _, _, _, _⟩) rfl 29 (.tmp 5) rfl q6 rfl 29 _ _ _ D2 Tryd.underlying29 rfl hi2 ?_; clear tok2 _t) | (go_at_call 16; refine (HSM.out _ hb7).mono ?_; rintro e w8 ⟨rfl, hb8⟩) | (go_at_call 8; refine (lives18 _).mono ?_; rintro e w9 ⟨rfl, hb9⟩))
          go_ret
          exact ⟨rfl, bnext K2 (bnext hb7 (bnext hb8 hb9))⟩
        · obtain ⟨pp, rfl, _⟩ : ∃ pp : Nat, ev = .iface 89 (.pointer (some ⟨pp, 0, none⟩)) ∧ W6.cell? ⟨pp, 3, none⟩ = some (.iface 35 (.int .i64 m)) := hv6.elim (fun q => absurd q.1 hm0) (fun q => q.2)
          have tm : (m == 0) = false := by simpa using hm0
          clear hv6
          have tok1 : True := trivial
          have tok2 : True := trivial
          go_wp2_with (first | (go_at_call 11; refine HCO.out.mono ?_; rintro e w7 ⟨rfl, hb7⟩; have D1 := HB3.out.below_ hb7; have D2 := HB6.out.below_ hb7) | (have _t := tok1; refine wpList_load_row_g (o := ⟨some 43, _, _, _, _, _⟩) rfl 29 (.tmp 3) rfl q3 rfl 29 _ _ _ D1 Tryd.underlying29 rfl hi1 ?_; clear tok1 _t) | (have _t := tok2; refine wpList_load_row_g (o := ⟨some 44, _, _, _, _, _⟩) rfl 29 (.tmp 5) rfl q6 rfl 29 _ _ _ D2 Tryd.underlying29 rfl hi2 ?_; clear tok2 _t) | (go_at_call 16; refine (HSM.out _ hb7).mono ?_; rintro e w8 ⟨rfl, hb8⟩) | (go_at_call 8; refine (lives18 _).mono ?_; rintro e w9 ⟨rfl, hb9⟩))
          go_ret
          exact ⟨rfl, bnext K2 (bnext hb7 (bnext hb8 hb9))⟩
      · clear ht4
        go_enter Tryd.func5, Tryd.ntmps5
        have tok1 : True := trivial
        have tok2 : True := trivial
        go_upto_region 4 with (first | (have _t := tok1; go_at_call 18; refine HT1.out.mono ?_; rintro e w1 ⟨hb1, us1, EA1, ec1, ev, rfl, P1, S1, hv, h4, h5⟩; have h81 := P1.u8; have hi1 := info_scc (c := s.c) (us := us1) (ev := .slice EA1 s.es.length ec1) h81; have hold1 : (#[.int .i64 0, .int .i64 0, .int .i64 0, .int .i64 0, .int .i64 0, .int .i64 0, .int .i64 0, .int .i64 0, .int .i64 0, .int .i64 0, .int .i64 0, .int .i64 0, .int .i64 0, .int .i64 0, .slice none 0 0, .slice none 0 0, .slice none 0 0, .slice none 0 0, .slice none 0 0, .slice none 0 0, .slice none 0 0, .slice none 0 0, .slice none 0 0] : Array Value).size = (scc s.c us1 (.slice EA1 s.es.length ec1)).toArray.size := (by show 23 = _; rw [List.size_toArray, scc_len h81]); have hone1 := scc_one (c := s.c) P1 EA1 s.es.length ec1; obtain ⟨cs1, hcs1⟩ : ∃ cs, scc s.c us1 (.slice EA1 s.es.length ec1) = cs := ⟨_, rfl⟩; rw [hcs1] at hi1 hold1 hone1; rw [hcs1]; have HCS1 := Lib.hid hcs1; clear hcs1; clear tok1 _t) | (have _t := tok2; refine wpList_store_row (o := ⟨none, .store 29 (.tmp 3) (.tmp 24), _, _, _, _⟩) rfl 29 (.tmp 3) (.tmp 24) rfl w1.heap.size _ rfl rfl 29 _ (Blk.new w1 _ _) hi1 hold1 hone1 ?_; clear tok2 _t))
        try simp only [Act.put]
        obtain ⟨q3, hq3⟩ : ∃ q, w1.heap.size = q := ⟨_, rfl⟩
        obtain ⟨W3, hW3, B1, k1⟩ : ∃ W, (w1.alloc (.cells #[.int .i64 0, .int .i64 0, .int .i64 0, .int .i64 0, .int .i64 0, .int .i64 0, .int .i64 0, .int .i64 0, .int .i64 0, .int .i64 0, .int .i64 0, .int .i64 0, .int .i64 0, .int .i64 0, .slice none 0 0, .slice none 0 0, .slice none 0 0, .slice none 0 0, .slice none 0 0, .slice none 0 0, .slice none 0 0, .slice none 0 0, .slice none 0 0] 29)).setRow w1.heap.size cs1.toArray = W ∧ Blk W q3 29 cs1.toArray ∧ Below w1.heap.size w1 W := by
          have kr := keeps_row (w1.alloc (.cells #[.int .i64 0, .int .i64 0, .int .i64 0, .int .i64 0, .int .i64 0, .int .i64 0, .int .i64 0, .int .i64 0, .int .i64 0, .int .i64 0, .int .i64 0, .int .i64 0, .int .i64 0, .int .i64 0, .slice none 0 0, .slice none 0 0, .slice none 0 0, .slice none 0 0, .slice none 0 0, .slice none 0 0, .slice none 0 0, .slice none 0 0, .slice none 0 0] 29)) w1.heap.size cs1.toArray
          exact ⟨_, rfl, by rw [← hq3]; exact (Blk.new w1 _ _).row _, kr.below (bnew (brefl w1) _) (by simp) (fun x e _ => by have e' : x = w1.heap.size := e; omega)⟩
        rw [hW3]
        try rw [hq3]
        have K1 := bnext (brefl w) (bnext hb1 k1)
        clear hW3 hq3
        have hv3 := hv.below k1
        have tok1 : True := trivial
        have tok2 : True := trivial
        go_upto_region 5 with (first | (have _t := tok1; go_at_call 19; refine (HT2.out _ K1).mono ?_; rintro e w4 ⟨hb2, us2, EA2, ec2, rfl, P2, S2⟩; have h82 := P2.u8; have hi2 := info_scc (c := s.c) (us := us2) (ev := .slice EA2 s.es.length ec2) h82; have hold2 : (#[.int .i64 0, .int .i64 0, .int .i64 0, .int .i64 0, .int .i64 0, .int .i64 0, .int .i64 0, .int .i64 0, .int .i64 0, .int .i64 0, .int .i64 0, .int .i64 0, .int .i64 0, .int .i64 0, .slice none 0 0, .slice none 0 0, .slice none 0 0, .slice none 0 0, .slice none 0 0, .slice none 0 0, .slice none 0 0, .slice none 0 0, .slice none 0 0] : Array Value).size = (scc s.c us2 (.slice EA2 s.es.length ec2)).toArray.size := (by show 23 = _; rw [List.size_toArray, scc_len h82]); have hone2 := scc_one (c := s.c) P2 EA2 s.es.length ec2; obtain ⟨cs2, hcs2⟩ : ∃ cs, scc s.c us2 (.slice EA2 s.es.length ec2) = cs := ⟨_, rfl⟩; rw [hcs2] at hi2 hold2 hone2; rw [hcs2]; have HCS2 := Lib.hid hcs2; clear hcs2; clear tok1 _t) | (have _t := tok2; refine wpList_store_row (o := ⟨none, .store 29 (.tmp 5) (.tmp 29), _, _, _, _⟩) rfl 29 (.tmp 5) (.tmp 29) rfl w4.heap.size _ rfl rfl 29 _ (Blk.new w4 _ _) hi2 hold2 hone2 ?_; clear tok2 _t))
        try simp only [Act.put]
        obtain ⟨q6, hq6⟩ : ∃ q, w4.heap.size = q := ⟨_, rfl⟩
        obtain ⟨W6, hW6, B2, k2⟩ : ∃ W, (w4.alloc (.cells #[.int .i64 0, .int .i64 0, .int .i64 0, .int .i64 0, .int .i64 0, .int .i64 0, .int .i64 0, .int .i64 0, .int .i64 0, .int .i64 0, .int .i64 0, .int .i64 0, .int .i64 0, .int .i64 0, .slice none 0 0, .slice none 0 0, .slice none 0 0, .slice none 0 0, .slice none 0 0, .slice none 0 0, .slice none 0 0, .slice none 0 0, .slice none 0 0] 29)).setRow w4.heap.size cs2.toArray = W ∧ Blk W q6 29 cs2.toArray ∧ Below w4.heap.size w4 W := by
          have kr := keeps_row (w4.alloc (.cells #[.int .i64 0, .int .i64 0, .int .i64 0, .int .i64 0, .int .i64 0, .int .i64 0, .int .i64 0, .int .i64 0, .int .i64 0, .int .i64 0, .int .i64 0, .int .i64 0, .int .i64 0, .int .i64 0, .slice none 0 0, .slice none 0 0, .slice none 0 0, .slice none 0 0, .slice none 0 0, .slice none 0 0, .slice none 0 0, .slice none 0 0, .slice none 0 0] 29)) w4.heap.size cs2.toArray
          exact ⟨_, rfl, by rw [← hq6]; exact (Blk.new w4 _ _).row _, kr.below (bnew (brefl w4) _) (by simp) (fun x e _ => by have e' : x = w4.heap.size := e; omega)⟩
        rw [hW6]
        try rw [hq6]
        have K2 := bnext K1 (bnext hb2 k2)
        clear hW6 hq6
        have k36 := bnext hb2 k2
        have B3 := B1.below_ k36
        have hv6 := hv3.below k36
        have P6 := (P1.below k1).below k36
        have S6 := (S1.below k1).below k36
        have P7 := P2.below k2
        have S7 := S2.below k2
        have HB3 := Lib.hid B3
        have HB6 := Lib.hid B2
        have HCO := Lib.hid (code_any hv6 (HG.out.below K2))
        have HSM := Lib.hid (fun W (hW : Below W6.heap.size W6 W) => same_any (c := s.c) (c2 := s.c) (P6.below hW) (S6.below hW) (P7.below hW) (S7.below hW) (by omega) (by omega) (fun l hl => by have := h4 l hl; omega) (fun l hl => by have := h4 l hl; omega))
        rw [HCS1.out, HCS2.out] at HSM
        have HSB : Hid (sameB s.c s.c s.ps s.ps s.es s.es = true) := same_yes rfl rfl rfl
        rw [HSB.out] at HSM
        clear B1 k1 hv hv3 P1 S1 P2 S2 hb1 hb2 k2 k36 B3 B2 P6 S6 P7 S7 K1 HT1 HT2
        by_cases hm0 : m = 0
        · obtain rfl : ev = .nilIface := hv6.elim (fun q => q.2) (fun q => absurd hm0 q.1)
          subst hm0
          clear hv6
          have tok1 : True := trivial
          have tok2 : True := trivial
          go_wp2_with (first | (go_at_call 11; refine HCO.out.mono ?_; rintro e w7 ⟨rfl, hb7⟩; have D1 := HB3.out.below_ hb7; have D2 := HB6.out.below_ hb7) | (have _t := tok1; refine wpList_load_row_g (o := ⟨some 43, _, _, _, _, _⟩) rfl 29 (.tmp 3) rfl q3 rfl 29 _ _ _ D1 Tryd.underlying29 rfl hi1 ?_; clear tok1 _t) | (have _t := tok2; refine wpList_load_row_g (o := ⟨some 44, _, _, _, _, _⟩) rfl 29 (.tmp 5) rfl q6 rfl 29 _ _ _ D2 Tryd.underlying29 rfl hi2 ?_; clear tok2 _t) | (go_at_call 16; refine (HSM.out _ hb7).mono ?_; rintro e w8 ⟨rfl, hb8⟩) | (go_at_call 8; refine (lives18 _).mono ?_; rintro e w9 ⟨rfl, hb9⟩))
          go_ret
          exact ⟨rfl, bnext K2 (bnext hb7 (bnext hb8 hb9))⟩
        · obtain ⟨pp, rfl, _⟩ : ∃ pp : Nat, ev = .iface 89 (.pointer (some ⟨pp, 0, none⟩)) ∧ W6.cell? ⟨pp, 3, none⟩ = some (.iface 35 (.int .i64 m)) := hv6.elim (fun q => absurd q.1 hm0) (fun q => q.2)
          have tm : (m == 0) = false := by simpa using hm0
          clear hv6
          have tok1 : True := trivial
          have tok2 : True := trivial
          go_wp2_with (first | (go_at_call 11; refine HCO.out.mono ?_; rintro e w7 ⟨rfl, hb7⟩; have D1 := HB3.out.below_ hb7; have D2 := HB6.out.below_ hb7) | (have _t := tok1; refine wpList_load_row_g (o := ⟨some 43, _, _, _, _, _⟩) rfl 29 (.tmp 3) rfl q3 rfl 29 _ _ _ D1 Tryd.underlying29 rfl hi1 ?_; clear tok1 _t) | (have _t := tok2; refine wpList_load_row_g (o := ⟨some 44, _, _, _, _, _⟩) rfl 29 (.tmp 5) rfl q6 rfl 29 _ _ _ D2 Tryd.underlying29 rfl hi2 ?_; clear tok2 _t) | (go_at_call 16; refine (HSM.out _ hb7).mono ?_; rintro e w8 ⟨rfl, hb8⟩) | (go_at_call 8; refine (lives18 _).mono ?_; rintro e w9 ⟨rfl, hb9⟩))
          go_ret
          exact ⟨rfl, bnext K2 (bnext hb7 (bnext hb8 hb9))⟩
end Go.Proofs.YtknngjdcbldmgaaDoor
