/-
  Texts in a row of cells. By an AI agent.
-/
import Derived.Test.YtfocpjcbfbbpgaaGreatDoorZGPlain
import Derived.Test.YtfocpjcbfbbpgaaGreatDoorProg
import Derived.Deep.QuietTactic
import Derived.BigQuiet
import Derived.Test.YtfocpjcbfbbpgaaGreatDoorZLower
namespace Go.Proofs.YtfocpjcbfbbpgaaGreatDoor
open Go.RowKit
set_option maxRecDepth 100000
theorem strAt {w : World} {b o : Nat} {ls : List (List UInt8)} (h : At w (some ⟨b, o, none⟩) (ls.map strV)) {k : Nat} (hk : k < ls.length) : w.cell? ⟨b, o + k, none⟩ = some (.string (B ls[k])) := by
 have := h.get (j := k) (by simpa using hk)
 rw [this]
 simp [strV]
end Go.Proofs.YtfocpjcbfbbpgaaGreatDoor
namespace Go.Proofs.YtfocpjcbfbbpgaaGreatDoor
open Go.RowKit
set_option maxRecDepth 100000
theorem strCells_B (l : List UInt8) : Lib.strCells (B l) = l.map U8 := by simp [Lib.strCells, B, U8]
theorem joinD_take_one (ls : List (List UInt8)) (h : 0 < ls.length) : joinD (ls.take 1) = ls[0] := by
 match ls, h with
 | p :: r, _ => rfl
theorem joinD_take_succ (ls : List (List UInt8)) (k : Nat) (h : k < ls.length) (hk : 0 < k) : joinD (ls.take (k + 1)) = joinD (ls.take k) ++ 45 :: ls[k] := by
 rw [List.take_succ_eq_append_getElem h, joinD_snoc]
 intro e
 have h2 := congrArg List.length e
 rw [List.length_take, Nat.min_eq_left (by omega)] at h2
 simp at h2
 omega
theorem joinD_take_le (ls : List (List UInt8)) (k : Nat) (hk : k < ls.length) : (joinD (ls.take k)).length + 1 + ls[k].length <= (joinD ls).length + 1 /\ (0 < k -> (joinD (ls.take k)).length + 1 + ls[k].length <= (joinD ls).length) := by
 have mono : ∀ (a b : List (List UInt8)), (joinD a).length <= (joinD (a ++ b)).length := by
   intro a b
   induction b generalizing a with
   | nil => simp
   | cons x b ih =>
     have := ih (a ++ [x])
     rw [List.append_assoc] at this
     refine Nat.le_trans ?_ this
     by_cases ha : a = []
     · subst ha; exact Nat.zero_le _
     · rw [joinD_snoc _ _ ha]; simp
 have h2 := mono (ls.take (k + 1)) (ls.drop (k + 1))
 rw [List.take_append_drop] at h2
 by_cases h0 : k = 0
 · subst h0
   rw [joinD_take_one ls hk] at h2
   simp [joinD]
   omega
 · rw [joinD_take_succ ls k hk (by omega)] at h2
   simp at h2
   omega
set_option maxHeartbeats 800000 in
theorem refJoined_l (ls : List (List UInt8)) (a : Option Addr) (c : Nat) (w : World) (hn : ls.length <= 16777216) (hj : (joinD ls).length <= 16777216) (h1 : At w a (ls.map strV)) :
   Calls Tryz.prog 214 #[.slice a ls.length c] w fun e w' => e = .returned (.string (B (joinD ls))) /\ Below w.heap.size w w' := by
 obtain ⟨i0, hi, hz0, hz1, hz2⟩ := info_parts infoU8
 have H1 := Lib.hid h1
 clear h1
 go_enter Tryz.func214, Tryz.ntmps214
 go_wp2
 go_loopw [3, 4] (fun v i wr => ∃ k : Nat, k <= ls.length /\ i = .int .i64 k /\ wr.ownsRow w.heap.size 5 1 v (joinD (ls.take k)).length ((joinD (ls.take k)).map U8) /\ Below w.heap.size w wr) (fun _ i _ => ls.length - (intOf i).toNat)
 case atStart => exact ⟨0, Nat.zero_le _, rfl, World.ownsRow_nil _ _ _ _, Below.refl _ _⟩
 case round =>
   obtain ⟨k, hk, rfl, hown, hb⟩ := hrel
   by_cases hlt : k < ls.length
   · obtain ⟨b1, o1, rfl⟩ := H1.out.place (by simp; omega)
     have hle := joinD_take_le ls k hlt
     have hcell : ∀ wx, Below w.heap.size w wx -> wx.cell? ⟨b1, o1 + k, none⟩ = some (.string (B ls[k])) := fun wx hx => strAt (H1.out.below hx) hlt
     by_cases hk0 : k = 0
     · have hc := hcell wr hb
       have HE : Hid (joinD (ls.take (k + 1)) = ls[k]) := by subst hk0; exact joinD_take_one ls hlt
       have HZ : Hid (joinD (ls.take k) = []) := by subst hk0; rfl
       have hnk : ¬ (0 : Int) < (k : Int) := by omega
       clear hk0
       have HC := Lib.hid hcell
       clear hcell
       go_wp2_with (at_builtin; refine Lib.wpList_append_own_string _ rfl (.tmp 16) (.tmp 20) 39 9 rfl w.heap.size 5 i0 Tryz.underlying39 Tryz.underlying9 hi hz0 hz1 hz2 _ _ _ rfl hown (B ls[k]) rfl ?c1 ?c2 hb.size ?_)
       case c1 => unfold maxLen; omega
       case c2 => omega
       intro v' w1 hown1 hg1 _
       have hown2 : w1.ownsRow w.heap.size 5 1 v' (joinD (ls.take (k + 1))).length ((joinD (ls.take (k + 1))).map U8) := by
         simp only [strCells_B, HZ.out] at hown1
         rw [HE.out]
         simpa using hown1
       have hb1 : Below w.heap.size w w1 := hb.grown hg1 hb.size (fun j hj => (hown.lt j hj).1)
       clear hown hown1 hg1 hb hc
       go_wp2
       go_roundw
       case rel => exact ⟨k + 1, by omega, by go_num, hown2, hb1⟩
       case measure => simp [intOf]; omega
     · have hk1 : 0 < k := by omega
       have HE := Lib.hid (joinD_take_succ ls k hlt hk1)
       have hle2 := hle.2 hk1
       have HC := Lib.hid hcell
       clear hcell hk0
       go_wp2_with (at_builtin; refine wpList_append_own _ rfl (.tmp 13) (.tmp 14) 39 rfl w.heap.size 5 i0 (.int .u8 0) 1 1 Tryz.underlying39 hi hz0 hz1 hz2 rfl (by decide) _ _ _ rfl (hown.alloc _) ⟨wr.heap.size, 0, none⟩ 1 1 [.int .u8 45] rfl rfl ?c1 ?c2 ?c3 ?c4 ?c5 ?_)
       case c1 => exact cell_one _ _ _
       case c2 => intro u hu; simp at hu; subst hu; rfl
       case c3 => unfold maxLen; omega
       case c4 => omega
       case c5 => have := hb.size; simp; omega
       intro v' w1 hown1 hg1 _
       have hb1 : Below w.heap.size w w1 := (hb.alloc hb.size _).grown hg1 (by have := hb.size; simp; omega) (fun j hj => (hown.lt j hj).1)
       have hc := HC.out w1 hb1
       clear hown hg1 hb
       go_wp2_with (at_builtin; refine Lib.wpList_append_own_string _ rfl (.tmp 16) (.tmp 20) 39 9 rfl w.heap.size 5 i0 Tryz.underlying39 Tryz.underlying9 hi hz0 hz1 hz2 _ _ _ rfl hown1 (B ls[k]) rfl ?d1 ?d2 hb1.size ?_)
       case d1 => have := B_size ls[k]; unfold maxLen; omega
       case d2 => have := B_size ls[k]; omega
       intro v2 w2 hown2 hg2 _
       have hown3 : w2.ownsRow w.heap.size 5 1 v2 (joinD (ls.take (k + 1))).length ((joinD (ls.take (k + 1))).map U8) := by
         simp only [strCells_B] at hown2
         rw [HE.out]
         have e : (joinD (ls.take k) ++ 45 :: ls[k]).length = (joinD (ls.take k)).length + 1 + ls[k].length := by simp; omega
         rw [e]
         simpa [U8] using hown2
       have hb2 : Below w.heap.size w w2 := hb1.grown hg2 hb1.size (fun j hj => (hown1.lt j hj).1)
       clear hown1 hown2 hg2 hb1 hc
       go_wp2
       go_roundw
       case rel => exact ⟨k + 1, by omega, by go_num, hown3, hb2⟩
       case measure => simp [intOf]; omega
   · obtain rfl : k = ls.length := by omega
     rw [List.take_length] at hown
     have hback := bytes_back (P := Tryz.prog) (w := wr) 39 9 Tryz.underlying39 Tryz.underlying5 Tryz.underlying9 hown
     go_wp2
     go_ret
     exact ⟨rfl, hb⟩
end Go.Proofs.YtfocpjcbfbbpgaaGreatDoor
