/-
  A term's text, a quad's line is read as that term, that quad: plain laws. No program in sight. By an AI agent.
-/
import Derived.Test.YtdegonmkikfghaaGreatDoorZEsc0
namespace Go.Proofs.YtdegonmkikfghaaGreatDoor
open Go.RowKit
set_option maxRecDepth 100000

theorem utf_all {t : List UInt8} (h : ¬ 0 ≤ utfF t 0) : utfF t 0 = -1 := by
  rcases utfF_ge t t.length 0 (by omega) with h1 | h1 <;> omega
theorem utf_of_iri {t : List UInt8} (h : iriN t = 0) : utfF t 0 = -1 := by
  unfold iriN at h
  by_cases hr : refN t = 0
  · unfold refN at hr
    split at hr
    · cases hr
    · split at hr
      · cases hr
      · next hu => exact utf_all hu
  · rw [if_pos hr] at h; exact absurd h hr
theorem term_cases {t : TermL} (h : termN t = 0) :
    (t.kind = 1 ∧ t.type = [] ∧ t.lang = [] ∧ iriN t.text = 0) ∨ (t.kind = 2 ∧ t.type = [] ∧ t.lang = [] ∧ t.text.length ≤ 65536 ∧ wholeR labelB t.text = true) ∨ (t.kind = 3 ∧ litN t = 0) := by
  unfold termN at h
  split at h
  · next hk =>
    split at h
    · cases h
    · next hn =>
      obtain ⟨h1, h2⟩ := Classical.not_not.1 hn
      split at h
      · next hk1 => exact .inl ⟨hk1, h1, h2, h⟩
      · next hk1 =>
        split at h
        · cases h
        · next hl =>
          split at h
          · next hw => exact .inr (.inl ⟨hk.resolve_left hk1, h1, h2, by omega, hw⟩)
          · cases h
  · split at h
    · next hk => exact .inr (.inr ⟨hk, h⟩)
    · cases h
theorem lit_cases {t : TermL} (h : litN t = 0) : t.text.length ≤ 65536 ∧ utfF t.text 0 = -1 ∧ iriN t.type = 0 ∧ ((t.lang = [] ∧ t.type ≠ tagged) ∨ (t.lang ≠ [] ∧ t.type = tagged ∧ t.lang.length ≤ 65536 ∧ (tagF t.lang).isNone = false ∧ lowL t.lang = t.lang)) := by
  unfold litN at h
  split at h
  · cases h
  · next h1 =>
    split at h
    · cases h
    · next h2 =>
      split at h
      · next h3 => exact absurd h h3
      · next h3 =>
        split at h
        · next h4 => exact absurd h h4
        · next h4 =>
          split at h
          · cases h
          · next h5 =>
            refine ⟨by omega, utf_all h2, Classical.not_not.1 h3, ?_⟩
            by_cases hl : t.lang = []
            · refine .inl ⟨hl, fun ht => h5 ?_⟩
              rw [hl, ht]; simp
            · refine .inr ⟨hl, ?_, ?_⟩
              · by_cases ht : t.type = tagged
                · exact ht
                · exact absurd (by simp [hl, ht]) h5
              · have h6 := Classical.not_not.1 h4
                unfold langN at h6
                rw [if_neg hl] at h6
                split at h6
                · cases h6
                · split at h6
                  · cases h6
                  · next h7 h8 =>
                    split at h6
                    · next h9 => exact ⟨by omega, Bool.not_eq_true _ ▸ h8, h9⟩
                    · cases h6
/-! lines -/
end Go.Proofs.YtdegonmkikfghaaGreatDoor
