/- Threads: the document's step, of any call. -/
import Derived.Test.YtclhlgeicfhdiaaThreadK
import Derived.Test.YtclhlgeicfhdiaaThreadL
import Derived.Test.YtclhlgeicfhdiaaThreadM
namespace Go.Proofs.Ytclhlgeicfhdiaa
set_option linter.unusedVariables false
set_option linter.unusedSimpArgs false
open Go.RowKit

/-- What the document's thread becomes. -/
def RDone (w : World) (FA HB : Option Addr) (t : Th) (e : Ending) (w' : World) : Prop := ∃ FA' fc' HB' hd', e = .returned (.agg (tvc t.told (.slice FA' t.frames.length fc') (.slice HB' t.hs.length hd'))) ∧ Sl frc w' FA' t.frames.length fc' t.frames ∧ Sl us w' HB' t.hs.length hd' t.hs ∧ New w w' FA FA' ∧ New w w' HB HB' ∧ Below w.heap.size w w'
theorem RDone.mk_ {w w' : World} {FA HB : Option Addr} {t : Th} {e : Ending} {told : List Int} {n m : Nat} (h1 : t.told = told) (h2 : t.frames.length = n) (h3 : t.hs.length = m)
    (h : ∃ FA' fc' HB' hd', e = .returned (.agg (tvc told (.slice FA' n fc') (.slice HB' m hd'))) ∧ Sl frc w' FA' n fc' t.frames ∧ Sl us w' HB' m hd' t.hs ∧ New w w' FA FA' ∧ New w w' HB HB' ∧ Below w.heap.size w w') : RDone w FA HB t e w' := by
  subst h1 h2 h3
  exact h
theorem rdo_any {w : World} {FA HB RA : Option Addr} {fc hd rn rc : Nat} {rl : List Int} (t : Th) (ht8 : t.told.length = 8) (h16 : ∀ f, f ∈ t.frames → f.r.length = 16) (hF : Sl frc w FA t.frames.length fc t.frames) (hH : Sl us w HB t.hs.length hd t.hs) (hr : Sl us w RA rn rc rl)
    (hn : t.frames.length ≤ 10000) (hm : t.hs.length ≤ 10000) (hrn : rn ≤ 10000) (hFb : ∀ ad, FA = some ad → ad.block < w.heap.size) (hHb : ∀ ad, HB = some ad → ad.block < w.heap.size) (hRb : ∀ ad, RA = some ad → rl ≠ [] → ad.block < w.heap.size) (k nn : Int) :
    Calls Try.prog 16 #[.agg (tvc t.told (.slice FA t.frames.length fc) (.slice HB t.hs.length hd)), .agg #[.int .i64 k, .int .i64 nn, .slice RA rn rc]] w (RDone w FA HB (t.doo k nn rl)) := by
  obtain ⟨told, owns, st, ki, frames, hs⟩ := t
  obtain ⟨a0, a1, a2, a3, a4, a5, a6, a7, rfl⟩ := len8 ht8
  dsimp only at h16 hF hH hn hm
  unfold Th.doo
  by_cases h0 : k = 0
  · subst h0
    rw [if_pos rfl]
    by_cases hrc : rn ≤ 16
    · exact (rdo_calla hF hH hr hn hm hrn hFb hHb a0 a1 a2 a3 a4 a5 a6 a7 nn hRb h16 hrc).mono fun e w' h => RDone.mk_ rfl (by simp [Th.call]) rfl h
    · exact (rdo_callb hF hH hr hn hm hrn hFb hHb a0 a1 a2 a3 a4 a5 a6 a7 nn hRb h16 (by omega)).mono fun e w' h => RDone.mk_ rfl (by simp [Th.call]) rfl h
  rw [if_neg h0]
  by_cases h1 : k = 1
  · subst h1
    rw [if_pos rfl]
    rcases Nat.eq_zero_or_pos frames.length with hz | hz
    · have hz0 : frames = [] := List.eq_nil_of_length_eq_zero hz
      by_cases hrc : rn ≤ 8
      · exact (rdo_back_za hF hH hr hn hm hrn hFb hHb a0 a1 a2 a3 a4 a5 a6 a7 hRb nn hrc hz).mono fun e w' h => RDone.mk_ (n := frames.length) rfl (by simp [Th.back, hz0]) rfl (by simpa [Th.back, hz0] using h)
      · exact (rdo_back_zb hF hH hr hn hm hrn hFb hHb a0 a1 a2 a3 a4 a5 a6 a7 hRb nn (by omega) hz).mono fun e w' h => RDone.mk_ (n := frames.length) rfl (by simp [Th.back, hz0]) rfl (by simpa [Th.back, hz0] using h)
    · obtain ⟨q, hq⟩ : ∃ q, frames.length = q + 1 := ⟨frames.length - 1, by omega⟩
      have hq2 : frames.length - 1 = q := by omega
      by_cases hrc : rn ≤ 8
      · exact (rdo_back_sa hF hH hr hn hm hrn hFb hHb a0 a1 a2 a3 a4 a5 a6 a7 hRb nn hrc q hq h16).mono fun e w' h => RDone.mk_ rfl (by simp [Th.back]; omega) rfl (by simpa only [Th.back, hq2] using h)
      · exact (rdo_back_sb hF hH hr hn hm hrn hFb hHb a0 a1 a2 a3 a4 a5 a6 a7 hRb nn (by omega) q hq h16).mono fun e w' h => RDone.mk_ rfl (by simp [Th.back]; omega) rfl (by simpa only [Th.back, hq2] using h)
  rw [if_neg h1]
  by_cases h2 : k = 2
  · subst h2
    rw [if_pos rfl]
    exact (rdo_note hF hH hr hn hm hrn hFb hHb a0 a1 a2 a3 a4 a5 a6 a7 nn).mono fun e w' h => RDone.mk_ rfl rfl (by simp [Th.note]) h
  rw [if_neg h2]
  by_cases h3 : k = 3
  · subst h3
    rw [if_pos rfl]
    unfold Th.hit
    dsimp only
    rcases Nat.eq_zero_or_pos frames.length with hz | hz
    · rw [List.getElem?_eq_none (by omega)]
      exact (rdo_none hF hH hr hn hm hrn hFb hHb a0 a1 a2 a3 a4 a5 a6 a7 nn hz).mono fun e w' h => RDone.mk_ rfl rfl rfl h
    · obtain ⟨q, hq⟩ : ∃ q, frames.length = q + 1 := ⟨frames.length - 1, by omega⟩
      have hq2 : frames.length - 1 = q := by omega
      rw [hq2]
      obtain ⟨f, hf⟩ : ∃ f, frames[q]? = some f := ⟨frames[q]'(by omega), List.getElem?_eq_getElem (i := q) _⟩
      rw [hf]
      dsimp only
      by_cases hnn : nn < 0
      · have e1 : f.hit nn = ⟨f.fn, nn, f.r⟩ := by unfold Fr.hit; rw [if_neg (by omega)]
        rw [e1]
        exact (rdo_neg hF hH hr hn hm hrn hFb hHb a0 a1 a2 a3 a4 a5 a6 a7 h16 nn q hq f hf hnn).mono fun e w' h => RDone.mk_ rfl (by simp [Th.touch]) rfl h
      · have hr16 := h16 f (List.mem_of_getElem? hf)
        have h4 : (nn % 16).toNat < 16 := by omega
        have h5 : nn.tmod 16 = ((nn % 16).toNat : Int) := by rw [Int.tmod_eq_emod_of_nonneg (by omega)]; omega
        obtain ⟨x, hx⟩ : ∃ x, f.r[(nn % 16).toNat]? = some x := ⟨f.r[(nn % 16).toNat]'(by omega), List.getElem?_eq_getElem (i := (nn % 16).toNat) _⟩
        have e1 : f.hit nn = ⟨f.fn, nn, f.r.set (nn % 16).toNat (IntKind.u64.wrap (x + 1))⟩ := by unfold Fr.hit; rw [if_pos (by omega), hx]; rfl
        rw [e1]
        exact (rdo_pos hF hH hr hn hm hrn hFb hHb a0 a1 a2 a3 a4 a5 a6 a7 h16 nn q hq f hf (by omega) _ x h5 h4 hx).mono fun e w' h => RDone.mk_ rfl (by simp [Th.touch]) rfl h
  rw [if_neg h3]
  exact (rdo_else hF hH hr hn hm hrn hFb hHb a0 a1 a2 a3 a4 a5 a6 a7 k nn h0 h1 h2 h3).mono fun e w' h => RDone.mk_ rfl rfl rfl h
end Go.Proofs.Ytclhlgeicfhdiaa
