/-
  tesseralaw06.sameTag: two tags with the same parts are told to be the same: contract. By an AI agent.
-/
import Derived.Test.YtfjcbodkjjmagaaDoorNJoin
import Derived.Test.YtfjcbodkjjmagaaDoorSameTexts
import Derived.WalkSmall
namespace Go.Proofs.YtfjcbodkjjmagaaDoor
open Go.RowKit
set_option maxRecDepth 100000

set_option maxHeartbeats 3200000 in
theorem sameTag_yes (t : TagL) (a1 a2 b1 b2 : Option Addr) (c1 c2 d1 d2 : Nat) (w : World) (h1 : t.vars.length ≤ 16777216) (h2 : t.exts.length ≤ 16777216) (hA1 : At w a1 (t.vars.map strV)) (hA2 : At w a2 (t.exts.map strV)) (hB1 : At w b1 (t.vars.map strV)) (hB2 : At w b2 (t.exts.map strV)) :
    Calls Tryd.prog 33 #[.agg (tagCells t a1 a2 c1 c2), .agg (tagCells t b1 b2 d1 d2)] w fun e w' => e = .returned (.bool true) ∧ Below w.heap.size w w' := by
  obtain ⟨lang, ext, script, region, vars, exts, priv⟩ := t
  simp only at h1 h2 hA1 hA2 hB1 hB2
  unfold tagCells
  simp only
  have SAME := Lib.hid sameTexts_yes
  obtain ⟨W1, hW1⟩ : ∃ W1, w.alloc (.cells #[.string (B lang), .string (B ext), .string (B script), .string (B region), .slice a1 vars.length c1, .slice a2 exts.length c2, .string (B priv)] 43) = W1 := ⟨_, rfl⟩
  obtain ⟨W2, hW2⟩ : ∃ W2, W1.alloc (.cells #[.string (B lang), .string (B ext), .string (B script), .string (B region), .slice b1 vars.length d1, .slice b2 exts.length d2, .string (B priv)] 43) = W2 := ⟨_, rfl⟩
  have s1 : W1.heap.size = w.heap.size + 1 := by rw [← hW1, World.size_alloc]
  have hb12 : Below W1.heap.size W1 W2 := by rw [← hW2]; exact (Below.refl _ _).alloc (Nat.le_refl _) _
  have hb01 : Below w.heap.size w W1 := by rw [← hW1]; exact (Below.refl _ _).alloc (Nat.le_refl _) _
  have hb02 : Below w.heap.size w W2 := hb01.trans (hb12.mono hb01.size)
  have TC : ∀ (k : Nat) (x : Value), (#[.string (B lang), .string (B ext), .string (B script), .string (B region), .slice a1 vars.length c1, .slice a2 exts.length c2, .string (B priv)] : Array Value)[k]? = some x → W2.cell? ⟨w.heap.size, k, none⟩ = some x :=
    fun k x hx => new_cell (T := 43) (by rw [hW1]; exact hb12) k x hx
  have TD : ∀ (k : Nat) (x : Value), (#[.string (B lang), .string (B ext), .string (B script), .string (B region), .slice b1 vars.length d1, .slice b2 exts.length d2, .string (B priv)] : Array Value)[k]? = some x → W2.cell? ⟨w.heap.size + 1, k, none⟩ = some x :=
    fun k x hx => by
      have h := new_cell (T := 43) (w := W1) (by rw [hW2]; exact Below.refl _ _) k x hx
      rw [s1] at h
      exact h
  have p0 := TC 0 _ rfl; have p1 := TC 1 _ rfl; have p2 := TC 2 _ rfl; have p3 := TC 3 _ rfl; have p4 := TC 4 _ rfl; have p5 := TC 5 _ rfl; have p6 := TC 6 _ rfl
  have q0 := TD 0 _ rfl; have q1 := TD 1 _ rfl; have q2 := TD 2 _ rfl; have q3 := TD 3 _ rfl; have q4 := TD 4 _ rfl; have q5 := TD 5 _ rfl; have q6 := TD 6 _ rfl
  have S1 : Hid (Calls Tryd.prog 81 #[.slice a1 vars.length c1, .slice b1 vars.length d1] W2 fun e w' => e = .returned (.bool true) ∧ ∃ m, w' = W2.drewN m) := Lib.hid (SAME.out vars a1 b1 c1 d1 W2 (by unfold maxLen; omega) (hA1.below hb02) (hB1.below hb02))
  have S2 : Hid (∀ n, Calls Tryd.prog 81 #[.slice a2 exts.length c2, .slice b2 exts.length d2] (W2.drewN n) fun e w' => e = .returned (.bool true) ∧ ∃ m, w' = W2.drewN m) := Lib.hid (fun n => (SAME.out exts a2 b2 c2 d2 (W2.drewN n) (by unfold maxLen; omega) ((hA2.below hb02).drewN n) ((hB2.below hb02).drewN n)).mono fun e w' ⟨h, m, hm⟩ => ⟨h, n + m, by rw [hm, World.drewN_drewN]⟩)
  have HB := Lib.hid hb02
  clear hb12 hb01 hb02 TC TD hA1 hA2 hB1 hB2
  go_enter Tryd.func33, Tryd.ntmps33
  go_wp2_with (first | (go_at_call 81; (with_reducible refine S1.out.mono ?_); rintro e w3 ⟨rfl, n1, rfl⟩) | (go_at_call 81; (with_reducible refine (S2.out n1).mono ?_); rintro e w4 ⟨rfl, n2, rfl⟩) | fail)
  go_ret
  exact ⟨rfl, below_drewN HB.out _⟩
end Go.Proofs.YtfjcbodkjjmagaaDoor
