/- The law FieldKeeps, walked. -/
import Derived.Test.YtmjihjbedgbhbaaFieldI
namespace Go.Proofs.Ytmjihjbedgbhbaa
set_option linter.unusedVariables false
set_option linter.unusedSimpArgs false
open Go.RowKit

/-- What is unpacked is packed again. -/
theorem pk_cuts (m : Nat) : ∀ (l : List Int) (t : Nat), (∀ x ∈ l, 1 ≤ x ∧ x ≤ 64) → (t : Int) + l.sum ≤ 64 → pk (m % 2 ^ t) (t : Int) l (cuts m (t : Int) l) = (m % 2 ^ ((t : Int) + l.sum).toNat, true)
  | [], t, _, _ => by
    simp [cuts, pk]
  | s :: r, t, h, hs => by
    obtain ⟨h1, h2⟩ := h s List.mem_cons_self
    obtain ⟨s, rfl⟩ : ∃ k : Nat, s = (k : Int) := ⟨s.toNat, by omega⟩
    have hr := fun x hx => h x (List.mem_cons_of_mem _ hx)
    have h0 := sum_ge_len r fun x hx => (hr x hx).1
    rw [List.sum_cons] at hs ⊢
    have hcut : Fld.cut m (t : Int) (s : Int) = m / 2 ^ t % 2 ^ s := Fld.cut_eq (by omega)
    have hlt : Fld.cut m (t : Int) (s : Int) < 2 ^ s := by rw [hcut]; exact Nat.mod_lt _ (Nat.two_pow_pos s)
    rw [cuts, pk, if_pos (by
      rw [Int.toNat_natCast]
      exact (Fld.above_none (Fld.cut_lt _ _ _) (by omega)).2 hlt)]
    rw [Int.toNat_natCast, Fld.set_put (Nat.mod_lt _ (Nat.two_pow_pos t)) hlt (by omega)]
    have e1 : m % 2 ^ t + Fld.cut m (t : Int) (s : Int) * 2 ^ t = m % 2 ^ (t + s) := by
      rw [hcut, Nat.pow_add, Nat.mod_mul, Nat.mul_comm (m / 2 ^ t % 2 ^ s)]
    rw [e1]
    have e2 : (t : Int) + (s : Int) = ((t + s : Nat) : Int) := by push_cast; rfl
    have ih := pk_cuts m r (t + s) hr (by push_cast; omega)
    rw [e2, ih, show ((t + s : Nat) : Int) + r.sum = (t : Int) + ((s : Int) + r.sum) by push_cast; omega]

theorem pack_back {m : Int} (hm : U64 m) {l : List Int} (hs : Sizes l) {S : Nat} (hS : l.sum = (S : Int)) (hz : m.toNat < 2 ^ S) : packIs l (cuts m.toNat 0 l) = (m.toNat, true) := by
  rw [packIs, if_pos ⟨(tot_iff l).2 hs, by rw [cuts_len]⟩]
  have := pk_cuts m.toNat l 0 hs.1 (by have := hs.2; simpa using this)
  rw [show ((0 : Nat) : Int) = 0 by rfl, Int.zero_add, hS, Int.toNat_natCast, Nat.pow_zero, Nat.mod_one, Nat.mod_eq_of_lt hz] at this
  exact this

theorem within_no {a s : Nat} {k : Nat} (h : k < a ∨ a + s ≤ k) : Fld.within (a : Int) (s : Int) k = false := by
  have : ¬ Fld.within (a : Int) (s : Int) k = true := by
    rw [Fld.within_iff]
    omega
  simpa using this

set_option maxHeartbeats 4000000 in
set_option maxRecDepth 100000 in
theorem keeps_walk {A : Option Addr} {n c : Nat} {ss : List Int} {m y : Int} {w : World} (h : Sl ic w A n c ss) (hm : U64 m) (hy : U64 y) (hn : n ≤ 100) :
    Calls Try.prog 14 #[.int .u64 m, .int .u64 y, .slice A n c] w fun e w' => e = .returned (.bool true) ∧ Below w.heap.size w w' := by
  go_enter Try.func14, Try.ntmps14
  go_upto_block 0 with (fail)
  go_cut [] (fun w' => w = w')
  case first =>
    go_wp2_with fail
    go_loopg [7, 8] n (fun gk a i wr => ∃ (k t : Nat), k + gk = n ∧ i = .int .i64 k ∧ a = .int .i64 t ∧ t ≤ 128 ∧ w = wr)
    case atStart => exact ⟨0, 0, by omega, rfl, rfl, by omega, rfl⟩
    case round =>
      obtain ⟨k, t, hk, rfl, rfl, ht, rfl⟩ := hrel
      by_cases hlt : k < n
      · obtain ⟨b, o, rfl, _, hc⟩ := h.base ic_len (by decide) (by omega)
        obtain ⟨x, hx⟩ : ∃ x, ss[k]? = some x := ⟨_, List.getElem?_eq_getElem (by rw [h.len]; exact hlt)⟩
        have c0 : w.cell? ⟨b, o + k, none⟩ = some (.int .i64 x) := by
          have := hc k x 0 _ hx rfl
          simpa using this
        have b0 : (0 : Int) ≤ (k : Int) := by omega
        have b1 : (k : Int) < (n : Int) := by omega
        clear hc hx h
        by_cases h1 : x < 1
        · go_wp2
          go_meet
          case rel => rfl
        by_cases h2 : 64 < x
        · go_wp2
          go_meet
          case rel => rfl
        by_cases h3 : 64 < t
        · have h3' : (64 : Int) < (t : Int) := by omega
          go_wp2
          go_meet
          case rel => rfl
        have h3' : ¬ (64 : Int) < (t : Int) := by omega
        obtain ⟨s, rfl⟩ : ∃ s : Nat, x = (s : Int) := ⟨x.toNat, by omega⟩
        have hset := fun w => set_any m (t : Int) (s : Int) y w hm (by unfold I64; omega) (by unfold I64; omega) hy
        have hbits : Hid (∀ q : Nat, q < 64 → (q < t ∨ t + s ≤ q) → Fld.bitZ (Fld.set m.toNat (t : Int) (s : Int) y.toNat) (q : Int) = Fld.bitZ m.toNat (q : Int)) := fun q h1 h2 => Fld.bit_set h1 (within_no h2)
        have hXlt : Fld.set m.toNat (t : Int) (s : Int) y.toNat < 2 ^ 64 := Fld.set_lt _ _ _ _
        have hcs : Hid (t < 64 → Fld.cut (Fld.set m.toNat (t : Int) (s : Int) y.toNat) (t : Int) (s : Int) = Fld.cut (Fld.cut y.toNat 0 (s : Int)) 0 (64 - (t : Int))) := fun h => Fld.cut_set (by omega) (by omega)
        obtain ⟨X, hX⟩ : ∃ X, Fld.set m.toNat (t : Int) (s : Int) y.toNat = X := ⟨_, rfl⟩
        rw [hX] at hset hbits hXlt hcs
        have HX : U64 (X : Int) := U64.nat hXlt
        clear hX hXlt
        have ht64 : t ≤ 64 := by omega
        have hs64 : s ≤ 64 := by omega
        go_upto_region 10 with (go_at_call 52; refine (hset _).mono ?_; rintro e w' ⟨rfl, rfl⟩)
        go_cut [59] (fun v w' => v = .bool false ∧ w = w')
        case first =>
          by_cases h4 : t < 64
          · have h4' : (t : Int) < 64 := by omega
            have q1 := fun w => cut_any X (t : Int) (s : Int) w HX (by unfold I64; omega) (by unfold I64; omega)
            have q2 := fun w => cut_any y 0 (s : Int) w hy (by unfold I64; omega) (by unfold I64; omega)
            have q3 := fun w => cut_any (Fld.cut y.toNat 0 (s : Int) : Nat) 0 (64 - (t : Int)) w (U64.nat (Fld.cut_lt _ _ _)) (by unfold I64; omega) (by unfold I64; omega)
            rw [Int.toNat_natCast] at q1 q3
            rw [hcs.out h4] at q1
            generalize Fld.cut (Fld.cut y.toNat 0 (s : Int)) 0 (64 - (t : Int)) = C at *
            generalize Fld.cut y.toNat 0 (s : Int) = D at *
            go_wp2_with fail
            refine (q1 _).mono ?_
            rintro e w' ⟨rfl, rfl⟩
            go_wp2_with fail
            refine (q2 _).mono ?_
            rintro e w' ⟨rfl, rfl⟩
            go_wp2_with fail
            refine (q3 _).mono ?_
            rintro e w' ⟨rfl, rfl⟩
            go_wp2_with fail
            go_meet
            case rel => exact ⟨rfl, rfl⟩
          · have h4' : ¬ (t : Int) < 64 := by omega
            go_wp2_with fail
            go_meet
            case rel => exact ⟨rfl, rfl⟩
        case rest =>
          obtain ⟨rfl, rfl⟩ := hcut
          clear hset hcs
          obtain ⟨gr, hgr⟩ : ∃ g, g = gk := ⟨_, rfl⟩
          subst hgr
          go_wp2_with fail
          go_loopg [11] 64 (fun gk i wr => ∃ q : Nat, q + gk = 64 ∧ i = .int .i64 q ∧ w = wr)
          case atStart => exact ⟨0, by omega, rfl, rfl⟩
          case round =>
            obtain ⟨q, hq, rfl, rfl⟩ := hrel
            by_cases hq64 : q < 64
            · have d0 : (q : Int) < 64 := by omega
              have hh1 := fun w => has_any X (q : Int) w HX (by unfold I64; omega)
              have hh2 := fun w => has_any m (q : Int) w hm (by unfold I64; omega)
              rw [Int.toNat_natCast] at hh1
              by_cases g1 : q < t
              · have g1' : (q : Int) < (t : Int) := by omega
                rw [hbits.out q hq64 (.inl g1)] at hh1
                generalize Fld.bitZ m.toNat (q : Int) = B at *
                go_wp2_with fail
                refine (hh1 _).mono ?_
                rintro e w' ⟨rfl, rfl⟩
                go_wp2_with fail
                refine (hh2 _).mono ?_
                rintro e w' ⟨rfl, rfl⟩
                go_wp2_with fail
                go_roundg (gk - 1)
                case measure => omega
                case rel => exact ⟨q + 1, by omega, by go_num, rfl⟩
              · have g1' : ¬ (q : Int) < (t : Int) := by omega
                by_cases g2 : t + s ≤ q
                · have g2' : (t : Int) + (s : Int) ≤ (q : Int) := by omega
                  rw [hbits.out q hq64 (.inr g2)] at hh1
                  generalize Fld.bitZ m.toNat (q : Int) = B at *
                  go_wp2_with fail
                  refine (hh1 _).mono ?_
                  rintro e w' ⟨rfl, rfl⟩
                  go_wp2_with fail
                  refine (hh2 _).mono ?_
                  rintro e w' ⟨rfl, rfl⟩
                  go_wp2_with fail
                  go_roundg (gk - 1)
                  case measure => omega
                  case rel => exact ⟨q + 1, by omega, by go_num, rfl⟩
                · have g2' : ¬ (t : Int) + (s : Int) ≤ (q : Int) := by omega
                  go_wp2_with fail
                  go_roundg (gk - 1)
                  case measure => omega
                  case rel => exact ⟨q + 1, by omega, by go_num, rfl⟩
            · have hge : ¬ (q : Int) < 64 := by omega
              go_wp2_with fail
              go_roundg (gr - 1)
              case measure => omega
              case rel => exact ⟨k + 1, t + s, by omega, by go_num, by go_num, by omega, rfl⟩
      · have hge : ¬ ((k : Int) < (n : Int)) := by omega
        go_wp2
        go_meet
        case rel => rfl
  case rest =>
    obtain rfl := hcut
    by_cases hs : Sizes ss
    · have h64 := hs.2
      have h0 := sum_ge_len ss fun x hx => (hs.1 x hx).1
      obtain ⟨S, hS⟩ : ∃ S : Nat, ss.sum = (S : Int) := ⟨ss.sum.toNat, by omega⟩
      rw [hS] at h64
      have hlt := Fld.above_none hm.lt (s := S) (by omega)
      by_cases hz : m.toNat < 2 ^ S
      · have hun := unpack_ok h (by omega) hm hs (by rw [hS]; exact hlt.2 hz)
        have hpb := pack_back hm hs hS hz
        have HP : Hid (packIs ss (cuts m.toNat 0 ss) = (m.toNat, true)) := hpb
        have hmc := hm.cast
        have HM : Hid (((m.toNat : Nat) : Int) = m) := hmc
        have hall : ∀ x ∈ cuts m.toNat 0 ss, U64 x := by
          have : ∀ (l : List Int) (a : Int), ∀ x ∈ cuts m.toNat a l, U64 x := by
            intro l
            induction l with
            | nil => intro a x hx; simp [cuts] at hx
            | cons s r ih =>
              intro a x hx
              rw [cuts] at hx
              rcases List.mem_cons.1 hx with rfl | hx
              · exact U64.nat (Fld.cut_lt _ _ _)
              · exact ih _ x hx
          exact this ss 0
        clear hs hz hS hlt h0 hpb hmc
        go_wp2_with (go_at_call 57; refine hun.mono ?_; rintro e w1 ⟨A1, c1, rfl, own1, hb1⟩)
        have hpk := pack_any (h.below hb1) (Sl.of_own uc_len (by decide) own1) hall (by omega) (by omega)
        rw [HP.out, HM.out] at hpk
        clear hall own1
        go_wp2_with (first | (go_at_call 55; refine hpk.mono ?_; rintro e w' ⟨rfl, rfl⟩) | (go_at_call 44; refine (lives01 _).mono ?_; rintro e w5 ⟨rfl, hb5⟩))
        go_ret
        exact ⟨rfl, bnext hb1 hb5⟩
      · have hun := unpack_no h (by omega) hm (fun q => hz (hlt.1 (by rw [← hS]; exact q.2)))
        clear hs hz hS hlt h0 h
        go_wp2_with (first | (go_at_call 57; refine hun.mono ?_; rintro e w' ⟨rfl, rfl⟩) | (go_at_call 44; refine (lives01 _).mono ?_; rintro e w5 ⟨rfl, hb5⟩))
        go_ret
        exact ⟨rfl, hb5⟩
    · have hun := unpack_no h (by omega) hm (fun q => hs q.1)
      clear hs h
      go_wp2_with (first | (go_at_call 57; refine hun.mono ?_; rintro e w' ⟨rfl, rfl⟩) | (go_at_call 44; refine (lives01 _).mono ?_; rintro e w5 ⟨rfl, hb5⟩))
      go_ret
      exact ⟨rfl, hb5⟩

theorem keeps_any {A : Option Addr} {n c : Nat} {ss : List Int} {m y : Int} {w : World} (h : Sl ic w A n c ss) (hm : U64 m) (hy : U64 y) (h1 : c ≤ maxLen) :
    Calls Try.prog 14 #[.int .u64 m, .int .u64 y, .slice A n c] w fun e w' => e = .returned (.bool true) ∧ Below w.heap.size w w' := by
  unfold maxLen at h1
  have e1 := h.cap
  by_cases hn : n ≤ 100
  · exact keeps_walk h hm hy hn
  · have t1 : (100 : Int) < (n : Int) := by omega
    have t2 : n ≤ 9223372036854775807 := by omega
    clear h h1
    go_enter Try.func14, Try.ntmps14
    go_wp2_with (go_at_call 44; refine (lives01 _).mono ?_; rintro e w5 ⟨rfl, hb5⟩)
    go_ret
    exact ⟨rfl, hb5⟩
end Go.Proofs.Ytmjihjbedgbhbaa
