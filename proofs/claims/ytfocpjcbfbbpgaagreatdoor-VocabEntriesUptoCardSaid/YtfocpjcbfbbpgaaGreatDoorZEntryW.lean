/-
  vocab.Entry, vocab.Read: contracts. By an AI agent.
-/
import Derived.Test.YtfocpjcbfbbpgaaGreatDoorZTermD
import Derived.Test.YtfocpjcbfbbpgaaGreatDoorZEntry0
import Derived.Test.YtfocpjcbfbbpgaaGreatDoorShelf
import Derived.Lib.SplitLaws
import Derived.Lib.QuietBelow
namespace Go.Proofs.YtfocpjcbfbbpgaaGreatDoor
open Go.RowKit Go.Sort
set_option maxRecDepth 1000000
theorem replace_l (l o n : List UInt8) (w : World) (hM : MaxAt w) (hl : l.length <= 4194304) (ho : 1 <= o.length) (hn : n.length <= 2) :
   Calls Tryz.prog 27 #[.string (B l), .string (B o), .string (B n)] w fun e w' => e = .returned (.string (B (Lib.replaceAll l o n))) /\ Below w.heap.size w w' := by
 obtain ⟨m, hm⟩ := hM
 have hc := Lib.countB_le (B o) (by rw [B_size]; exact ho) l.length (B l) (by rw [B_size]; exact Nat.le_refl _)
 rw [B_size] at hc
 have hmul : Lib.countB (B l) (B o) * (B n).size <= 4194304 * 2 := Nat.mul_le_mul (by omega) (by rw [B_size]; exact hn)
 exact Tryz.strings_ReplaceAll (B l) (B o) (B n) m w (by rw [B_size]; omega) hm (by rw [B_size]; exact ho) (by rw [B_size]; omega)
theorem cut_l (l o : List UInt8) (w : World) (hM : MaxAt w) (hl : l.length <= 4194304) :
   Calls Tryz.prog 29 #[.string (B l), .string (B o)] w fun e w' => e = .returned (.tuple #[.string (B (Lib.cut l o).1), .string (B (Lib.cut l o).2.1), .bool (Lib.cut l o).2.2]) /\ Below w.heap.size w w' := by
 obtain ⟨m, hm⟩ := hM
 refine (Tryz.strings_Cut (B l) (B o) m w (by rw [B_size]; omega) hm).mono ?_
 rintro e w' ⟨he, n, rfl⟩
 exact ⟨he, _root_.Go.below_drewN (Below.refl _ _) n⟩
theorem cat_00 (m : List UInt8) : B m ++ (⟨#[0, 0]⟩ : ByteArray) = B (m ++ [0, 0]) := B_append m [0, 0]
theorem cat_0 (m : List UInt8) : B m ++ (⟨#[0]⟩ : ByteArray) = B (m ++ [0]) := B_append m [0]
theorem box4 {w w1 : World} {a b c d : Value} {T : TypeId} (h : Below (w.alloc (.cells #[a, b, c, d] T)).heap.size (w.alloc (.cells #[a, b, c, d] T)) w1) :
   w1.cell? ⟨w.heap.size, 0, none⟩ = some a /\ w1.cell? ⟨w.heap.size, 1, none⟩ = some b /\ w1.cell? ⟨w.heap.size, 2, none⟩ = some c /\ w1.cell? ⟨w.heap.size, 3, none⟩ = some d /\ Below w.heap.size w w1 /\ w.heap.size < w1.heap.size := by
 have hs := h.size
 have hz : (w.alloc (.cells #[a, b, c, d] T)).heap.size = w.heap.size + 1 := by simp
 have key : ∀ j x, #[a, b, c, d][j]? = some x -> w1.cell? ⟨w.heap.size, j, none⟩ = some x := fun j x hx => by
   rw [h.cell (p := ⟨w.heap.size, j, none⟩) (by simp), World.cell?_alloc_new]
   exact hx
 exact ⟨key 0 a rfl, key 1 b rfl, key 2 c rfl, key 3 d rfl, ((Below.refl _ w).alloc (Nat.le_refl _) _).trans (h.mono (by omega)), by omega⟩
set_option maxHeartbeats 2000000 in
theorem vocabEntry_l (t : TermL) (w : World) (hT : TabAt w) (hM : MaxAt w) (h1 : t.text.length <= 1048576) (h2 : t.type.length <= 1048576) (h3 : t.lang.length <= 1048576) :
   Calls Tryz.prog 6 #[termV t] w fun e w' => e = .returned (.tuple #[.string (B (entryN t).1), .int .i64 (entryN t).2]) /\ Below w.heap.size w w' := by
 have CH := Lib.hid (fun u (hb : Below w.heap.size w u) => check_l t u (hT.below hb) (hM.below hb) h1 h2 h3)
 have RP := Lib.hid (fun u (hb : Below w.heap.size w u) => replace_l t.text [0] [0, 1] u (hM.below hb) (by omega) (by decide) (by decide))
 have he := escN_len t.text
 obtain ⟨k, tx, ty, la⟩ := t
 simp only at h1 h2 h3 he RP
 rw [rep_esc] at RP
 obtain ⟨x, hx⟩ : ∃ x, escN tx = x := ⟨_, rfl⟩
 rw [hx] at he RP
 clear hT hM
 unfold termV at CH ⊢
 simp only at CH ⊢
 obtain ⟨tn, htn⟩ : ∃ tn, termN ⟨k, tx, ty, la⟩ = tn := ⟨_, rfl⟩
 rw [htn] at CH
 by_cases hn : tn = 0
 · subst hn
   by_cases hk : k = 3
   · have HE : Hid (entryN ⟨k, tx, ty, la⟩ = (x ++ 0 :: 0 :: (ty ++ 0 :: la), 0)) := Lib.hid (by unfold entryN entryS; rw [if_neg (by simp [htn]), if_pos hk, hx])
     subst hk
     have C1 := cat_00
     have C2 := cat_0
     clear hx htn
     go_enter Tryz.func6, Tryz.ntmps6
     go_wp2_with (go_at_call 26; (with_reducible refine (CH.out _ ((Below.refl _ _).alloc (Nat.le_refl _) _)).mono ?_); rintro e w1 ⟨rfl, hb1⟩; have hbx := box4 hb1; have k0 := hbx.1; have k1 := hbx.2.1; have k2 := hbx.2.2.1; have k3 := hbx.2.2.2.1; have HB1 := Lib.hid hbx.2.2.2.2.1; have hl1 := hbx.2.2.2.2.2; clear hb1 hbx)
     have r0 := cell_regrown k0
     have r1 := cell_regrown k1
     have r2 := cell_regrown k2
     have r3 := cell_regrown k3
     have cR : ∀ d os, Calls Tryz.prog 27 #[.string (B tx), .string { data := #[0] }, .string { data := #[0, 1] }] (grow (redrawn w1 d) os) fun e w'' => e = .returned (.string (B x)) /\ ∃ r : Regrown, w'' = grow (redrawn w1 r.d) r.os := fun d os => Calls.regrown_of (RP.out _ (HB1.out.trans ((below_regrown w1 d os).mono HB1.out.size)))
     have n1 : ¬ 9223372036854775807 < x.length + 2 := by omega
     have n2 : ¬ 9223372036854775807 < x.length + 2 + ty.length := by omega
     have n3 : ¬ 9223372036854775807 < x.length + (ty.length + 1 + 1) + 1 := by omega
     have n4 : ¬ 9223372036854775807 < x.length + (ty.length + 1 + 1 + 1) + la.length := by omega
     have n5 : ¬ 9223372036854775807 < x.length + (ty.length + 1 + 1) + 1 + la.length := by omega
     refine wp_region_quiet_below (by kernel_rfl) (by kernel_rfl) ?_
     repeat (quiet_step (exact cR _ _))
     refine wpQuiet_nil ?_
     intro _ hw'
     obtain ⟨⟨dq, osq⟩, hw''⟩ := hw'
     subst hw''
     go_wp2_with fail
     go_ret2
     rw [HE.out]
     exact ⟨by simp, HB1.out.trans ((below_regrown w1 dq osq).mono HB1.out.size)⟩
   · have HE : Hid (entryN ⟨k, tx, ty, la⟩ = (tx, 0)) := Lib.hid (by unfold entryN entryS; rw [if_neg (by simp [htn]), if_neg hk])
     have e1 : (k != 3) = true := bne_iff_ne.2 hk
     clear hk htn hx
     go_enter Tryz.func6, Tryz.ntmps6
     go_wp2_with (go_at_call 26; (with_reducible refine (CH.out _ ((Below.refl _ _).alloc (Nat.le_refl _) _)).mono ?_); rintro e w1 ⟨rfl, hb1⟩; have hbx := box4 hb1; have k0 := hbx.1; have k1 := hbx.2.1; have k2 := hbx.2.2.1; have k3 := hbx.2.2.2.1; have HB1 := Lib.hid hbx.2.2.2.2.1; have hl1 := hbx.2.2.2.2.2; clear hb1 hbx)
     go_ret2
     rw [HE.out]
     exact ⟨rfl, HB1.out⟩
 · have HE : Hid (entryN ⟨k, tx, ty, la⟩ = ([], tn)) := Lib.hid (by unfold entryN; rw [htn, if_pos hn])
   have e0 : (tn != 0) = true := bne_iff_ne.2 hn
   clear hn htn hx
   go_enter Tryz.func6, Tryz.ntmps6
   go_wp2_with (go_at_call 26; (with_reducible refine (CH.out _ ((Below.refl _ _).alloc (Nat.le_refl _) _)).mono ?_); rintro e w1 ⟨rfl, hb1⟩; have HB1 := Lib.hid (box4 hb1).2.2.2.2.1; clear hb1)
   go_ret2
   rw [HE.out]
   exact ⟨rfl, HB1.out⟩
end Go.Proofs.YtfocpjcbfbbpgaaGreatDoor
