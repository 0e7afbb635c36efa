/-
  Which scalars may stand where, in the program and in the reference: contracts. By an AI agent.
-/
import Derived.Test.YtdhmpakhdhdebaaGreatDoorZGPlain
import Derived.Test.YtdhmpakhdhdebaaGreatDoorProg
import Derived.WalkSpells
import Derived.Deep.WholeRow
import Derived.WalkLawsBesides
namespace Go.Proofs.YtdhmpakhdhdebaaGreatDoor
open Go.Lib (hid)
open Go.RowKit
set_option maxRecDepth 100000
def TabAt (w : World) : Prop := ∀ k (h : k < ranges.length), w.cell? ⟨2, 2 * k, none⟩ = some (.int .i32 ranges[k].1) /\ w.cell? ⟨2, 2 * k + 1, none⟩ = some (.int .i32 ranges[k].2)
theorem TabAt.below {w w' : World} (h : TabAt w) (hb : Below w.heap.size w w') : TabAt w' := fun k hk => by
 obtain ⟨h1, h2⟩ := h k hk
 exact ⟨by rw [hb.cell (p := ⟨_, 2 * k, none⟩) (World.block_lt_of_cell? _ _ h1)]; exact h1, by rw [hb.cell (p := ⟨_, 2 * k + 1, none⟩) (World.block_lt_of_cell? _ _ h2)]; exact h2⟩
theorem letter_any (r : Int) (w : World) : Calls Tryz.prog 205 #[.int .i32 r] w fun e w' => e = .returned (.bool (letterB r)) /\ w' = w := by
 by_cases h1 : 97 <= r
 ·by_cases h2 : r <= 122
  ·have HF : Hid (letterB r = true) := hid (by unfold letterB; rw [decide_eq_true ⟨h1, h2⟩]; rfl)
   go_enter Tryz.func205, Tryz.ntmps205
   go_wp2
   go_ret
   exact ⟨ret_bool (Eq.trans (by first | rfl | (simp; done) | (simp; omega)) HF.out.symm), rfl⟩
  ·have HF : Hid (letterB r = false) := hid (by unfold letterB; rw [decide_eq_false (by omega), decide_eq_false (by omega)]; rfl)
   go_enter Tryz.func205, Tryz.ntmps205
   go_wp2
   go_ret
   exact ⟨ret_bool (Eq.trans (by first | rfl | (simp; done) | (simp; omega)) HF.out.symm), rfl⟩
 ·have hx : ¬ (97 <= r /\ r <= 122) := by omega
  by_cases h2 : 65 <= r
  ·by_cases h3 : r <= 90
   ·have HF : Hid (letterB r = true) := hid (by unfold letterB; rw [decide_eq_true (p := 65 <= r /\ r <= 90) ⟨h2, h3⟩, Bool.or_true])
    clear hx
    go_enter Tryz.func205, Tryz.ntmps205
    go_wp2
    go_ret
    exact ⟨ret_bool (Eq.trans (by first | rfl | (simp; done) | (simp; omega)) HF.out.symm), rfl⟩
   ·have HF : Hid (letterB r = false) := hid (by unfold letterB; rw [decide_eq_false hx, decide_eq_false (by omega)]; rfl)
    clear hx
    go_enter Tryz.func205, Tryz.ntmps205
    go_wp2
    go_ret
    exact ⟨ret_bool (Eq.trans (by first | rfl | (simp; done) | (simp; omega)) HF.out.symm), rfl⟩
  ·have HF : Hid (letterB r = false) := hid (by unfold letterB; rw [decide_eq_false hx, decide_eq_false (by omega)]; rfl)
   clear hx
   go_enter Tryz.func205, Tryz.ntmps205
   go_wp2
   go_ret
   exact ⟨ret_bool (Eq.trans (by first | rfl | (simp; done) | (simp; omega)) HF.out.symm), rfl⟩
theorem digit_any (r : Int) (w : World) : Calls Tryz.prog 171 #[.int .i32 r] w fun e w' => e = .returned (.bool (digitB r)) /\ w' = w := by
 by_cases h1 : 48 <= r
 ·by_cases h2 : r <= 57
  ·have HF : Hid (digitB r = true) := hid (decide_eq_true ⟨h1, h2⟩)
   go_enter Tryz.func171, Tryz.ntmps171
   go_wp2
   go_ret
   exact ⟨ret_bool (Eq.trans (by first | rfl | (simp; done) | (simp; omega)) HF.out.symm), rfl⟩
  ·have HF : Hid (digitB r = false) := hid (decide_eq_false (by omega))
   go_enter Tryz.func171, Tryz.ntmps171
   go_wp2
   go_ret
   exact ⟨ret_bool (Eq.trans (by first | rfl | (simp; done) | (simp; omega)) HF.out.symm), rfl⟩
 ·have HF : Hid (digitB r = false) := hid (decide_eq_false (by omega))
  go_enter Tryz.func171, Tryz.ntmps171
  go_wp2
  go_ret
  exact ⟨ret_bool (Eq.trans (by first | rfl | (simp; done) | (simp; omega)) HF.out.symm), rfl⟩
set_option maxHeartbeats 800000 in
theorem base_any (r : Int) (w : World) (hT : TabAt w) : Calls Tryz.prog 154 #[.int .i32 r] w fun e w' => e = .returned (.bool (baseB r)) /\ w' = w := by
 have LET := hid letter_any
 have HT := hid hT
 clear hT
 by_cases h : r < 128
 ·have HF := hid (baseB_low h)
  go_enter Tryz.func154, Tryz.ntmps154
  go_wp2_with (go_at_call 205; refine (LET.out _ _).mono ?_; rintro e w1 ⟨rfl, rfl⟩)
  go_ret
  exact ⟨ret_bool HF.out.symm, rfl⟩
 ·have HF := hid (baseB_high (r := r) (by omega))
  have hd : decide (r < 128) = false := decide_eq_false h
  go_enter Tryz.func154, Tryz.ntmps154
  go_wp2_with fail
  go_loop [3] (fun i => ∃ m k : Nat, i = .int .i64 m /\ m <= 24 /\ Hid (m = 2 * k /\ baseB r = (ranges.drop k).any (inOne r))) (fun i => 24 - (intOf i).toNat)
  case atStart => exact ⟨0, 0, rfl, by omega, hid ⟨rfl, HF.out⟩⟩
  case round =>
   obtain ⟨m, k, rfl, hm, HK⟩ := hrel
   by_cases hlt : m < 24
   ·have hk : k < ranges.length := by have := HK.out.1; show k < 12; omega
    obtain ⟨t1, t2⟩ := HT.out k hk
    have hstep := HK.out.2
    rw [List.drop_eq_getElem_cons hk, List.any_cons] at hstep
    obtain ⟨p, hp⟩ : ∃ p, ranges[k] = p := ⟨_, rfl⟩
    rw [hp] at t1 t2 hstep
    have hmk := HK.out.1
    have hm2 : m + 1 < 24 := by omega
    rw [<- hmk] at t1 t2
    have HM := hid hmk
    have HS := hid hstep
    clear hp hmk hstep
    by_cases c1 : p.1 <= r
    ·by_cases c2 : r <= p.2
     ·have HE : Hid (baseB r = true) := hid (by rw [HS.out, inOne_true c1 c2]; rfl)
      go_wp2_with fail
      go_ret
      exact ⟨ret_bool HE.out.symm, rfl⟩
     ·have HE : Hid (m + 2 = 2 * (k + 1) /\ baseB r = (ranges.drop (k + 1)).any (inOne r)) := hid ⟨by have := HM.out; omega, by rw [HS.out, inOne_false (.inr (by omega))]; rfl⟩
      go_wp2_with fail
      go_round
      case rel => exact ⟨m + 2, k + 1, by go_num, by have := HM.out; omega, HE⟩
      case measure => simp [intOf]; omega
    ·have HE : Hid (m + 2 = 2 * (k + 1) /\ baseB r = (ranges.drop (k + 1)).any (inOne r)) := hid ⟨by have := HM.out; omega, by rw [HS.out, inOne_false (.inl (by omega))]; rfl⟩
     go_wp2_with fail
     go_round
     case rel => exact ⟨m + 2, k + 1, by go_num, by have := HM.out; omega, HE⟩
     case measure => simp [intOf]; omega
   ·have HE : Hid (baseB r = false) := hid (by have h1 := HK.out.1; have h2 := HK.out.2; rw [show k = 12 by omega] at h2; exact h2)
    go_wp2_with fail
    go_ret
    exact ⟨ret_bool HE.out.symm, rfl⟩
theorem start_any (r : Int) (w : World) (hT : TabAt w) : Calls Tryz.prog 170 #[.int .i32 r] w fun e w' => e = .returned (.bool (startB r)) /\ w' = w := by
 have BASE := hid (base_any r w hT)
 clear hT
 cases hb : baseB r with
 | true =>
  have HF : Hid (startB r = true) := hid (by unfold startB; rw [hb]; rfl)
  go_enter Tryz.func170, Tryz.ntmps170
  go_wp2_with (go_at_call 154; refine BASE.out.mono ?_; rintro e w1 ⟨rfl, rfl⟩)
  go_ret
  exact ⟨ret_bool (Eq.trans (by first | rfl | (simp; done) | (simp; omega)) HF.out.symm), rfl⟩
 | false =>
  have HF : Hid (startB r = (r == 95)) := hid (by unfold startB; rw [hb, Bool.false_or]; exact (Bool.beq_eq_decide_eq _ _).symm)
  go_enter Tryz.func170, Tryz.ntmps170
  go_wp2_with (go_at_call 154; refine BASE.out.mono ?_; rintro e w1 ⟨rfl, rfl⟩)
  go_ret
  exact ⟨ret_bool HF.out.symm, rfl⟩
theorem labels_any (r : Int) (w : World) (hT : TabAt w) : Calls Tryz.prog 144 #[.int .i32 r] w fun e w' => e = .returned (.bool (labelB r)) /\ w' = w := by
 have ST := hid (start_any r w hT)
 have DIG := hid (digit_any r w)
 clear hT
 cases hb : startB r with
 | true =>
  have HF : Hid (labelB r = true) := hid (by unfold labelB; rw [hb]; rfl)
  go_enter Tryz.func144, Tryz.ntmps144
  go_wp2_with (go_at_call 170; refine ST.out.mono ?_; rintro e w1 ⟨rfl, rfl⟩)
  go_ret
  exact ⟨ret_bool HF.out.symm, rfl⟩
 | false =>
  have HF : Hid (labelB r = digitB r) := hid (by unfold labelB; rw [hb, Bool.false_or])
  go_enter Tryz.func144, Tryz.ntmps144
  go_wp2_with (first | (go_at_call 170; refine ST.out.mono ?_; rintro e w1 ⟨rfl, rfl⟩) | (go_at_call 171; refine DIG.out.mono ?_; rintro e w1 ⟨rfl, rfl⟩))
  go_ret
  exact ⟨ret_bool HF.out.symm, rfl⟩
set_option maxHeartbeats 800000 in
theorem follow_any (r : Int) (w : World) (hT : TabAt w) : Calls Tryz.prog 172 #[.int .i32 r] w fun e w' => e = .returned (.bool (followB r)) /\ w' = w := by
 have ST := hid (start_any r w hT)
 have DIG := hid (digit_any r w)
 clear hT
 cases hb : startB r with
 | true =>
  have HF : Hid (followB r = true) := hid (by unfold followB; rw [hb]; rfl)
  go_enter Tryz.func172, Tryz.ntmps172
  go_wp2_with (go_at_call 170; refine ST.out.mono ?_; rintro e w1 ⟨rfl, rfl⟩)
  go_ret
  exact ⟨ret_bool HF.out.symm, rfl⟩
 | false =>
  cases hd : digitB r with
  | true =>
   have HF : Hid (followB r = true) := hid (by unfold followB; rw [hb, hd]; rfl)
   go_enter Tryz.func172, Tryz.ntmps172
   go_wp2_with (first | (go_at_call 170; refine ST.out.mono ?_; rintro e w1 ⟨rfl, rfl⟩) | (go_at_call 171; refine DIG.out.mono ?_; rintro e w1 ⟨rfl, rfl⟩))
   go_ret
   exact ⟨ret_bool HF.out.symm, rfl⟩
  | false =>
   have HF : ∀ q, (decide (r = 45) || decide (r = 183) || decide (768 <= r /\ r <= 879) || decide (8255 <= r /\ r <= 8256)) = q -> followB r = q := fun q h => by unfold followB; rw [hb, hd, <- h]; simp only [Bool.or_assoc, Bool.false_or]
   have HH := hid HF
   clear HF
   have hc : (r = 45 \/ r = 183 \/ (768 <= r /\ r <= 879) \/ (8255 <= r /\ r <= 8256)) \/ ¬ (r = 45 \/ r = 183 \/ (768 <= r /\ r <= 879) \/ (8255 <= r /\ r <= 8256)) := Classical.em _
   rcases hc with (h | h | h | h) | h
   ·subst h
    go_enter Tryz.func172, Tryz.ntmps172
    go_wp2_with (first | (go_at_call 170; refine ST.out.mono ?_; rintro e w1 ⟨rfl, rfl⟩) | (go_at_call 171; refine DIG.out.mono ?_; rintro e w1 ⟨rfl, rfl⟩))
    go_ret
    exact ⟨ret_bool (HH.out true (by decide)).symm, rfl⟩
   ·subst h
    go_enter Tryz.func172, Tryz.ntmps172
    go_wp2_with (first | (go_at_call 170; refine ST.out.mono ?_; rintro e w1 ⟨rfl, rfl⟩) | (go_at_call 171; refine DIG.out.mono ?_; rintro e w1 ⟨rfl, rfl⟩))
    go_ret
    exact ⟨ret_bool (HH.out true (by decide)).symm, rfl⟩
   ·obtain ⟨h1, h2⟩ := h
    have e1 : (r == 45) = false := beq_eq_false_iff_ne.2 (by omega)
    have e2 : (r == 183) = false := beq_eq_false_iff_ne.2 (by omega)
    have HQ := hid (HH.out true (by rw [decide_eq_true (p := 768 <= r /\ r <= 879) ⟨h1, h2⟩]; simp))
    go_enter Tryz.func172, Tryz.ntmps172
    go_wp2_with (first | (go_at_call 170; refine ST.out.mono ?_; rintro e w1 ⟨rfl, rfl⟩) | (go_at_call 171; refine DIG.out.mono ?_; rintro e w1 ⟨rfl, rfl⟩))
    go_ret
    exact ⟨ret_bool HQ.out.symm, rfl⟩
   ·obtain ⟨h1, h2⟩ := h
    have e1 : (r == 45) = false := beq_eq_false_iff_ne.2 (by omega)
    have e2 : (r == 183) = false := beq_eq_false_iff_ne.2 (by omega)
    have h3 : ¬ r <= 879 := by omega
    have HQ := hid (HH.out true (by rw [decide_eq_true (p := 8255 <= r /\ r <= 8256) ⟨h1, h2⟩]; simp))
    go_enter Tryz.func172, Tryz.ntmps172
    go_wp2_with (first | (go_at_call 170; refine ST.out.mono ?_; rintro e w1 ⟨rfl, rfl⟩) | (go_at_call 171; refine DIG.out.mono ?_; rintro e w1 ⟨rfl, rfl⟩))
    go_ret
    exact ⟨ret_bool HQ.out.symm, rfl⟩
   ·have e1 : (r == 45) = false := beq_eq_false_iff_ne.2 (by omega)
    have e2 : (r == 183) = false := beq_eq_false_iff_ne.2 (by omega)
    have HQ := hid (HH.out false (by rw [decide_eq_false (p := r = 45) (by omega), decide_eq_false (p := r = 183) (by omega), decide_eq_false (p := 768 <= r /\ r <= 879) (by omega), decide_eq_false (p := 8255 <= r /\ r <= 8256) (by omega)]; rfl))
    have c1 : ¬ (768 <= r /\ r <= 879) := by omega
    have c2 : ¬ (8255 <= r /\ r <= 8256) := by omega
    clear h
    by_cases a1 : 768 <= r
    ·have a2 : decide (r <= 879) = false := decide_eq_false (by omega)
     by_cases a3 : 8255 <= r
     ·have a4 : decide (r <= 8256) = false := decide_eq_false (by omega)
      clear c1 c2
      go_enter Tryz.func172, Tryz.ntmps172
      go_wp2_with (first | (go_at_call 170; refine ST.out.mono ?_; rintro e w1 ⟨rfl, rfl⟩) | (go_at_call 171; refine DIG.out.mono ?_; rintro e w1 ⟨rfl, rfl⟩))
      go_ret
      exact ⟨ret_bool HQ.out.symm, rfl⟩
     ·clear c1 c2
      go_enter Tryz.func172, Tryz.ntmps172
      go_wp2_with (first | (go_at_call 170; refine ST.out.mono ?_; rintro e w1 ⟨rfl, rfl⟩) | (go_at_call 171; refine DIG.out.mono ?_; rintro e w1 ⟨rfl, rfl⟩))
      go_ret
      exact ⟨ret_bool HQ.out.symm, rfl⟩
    ·clear c1 c2
     go_enter Tryz.func172, Tryz.ntmps172
     go_wp2_with (first | (go_at_call 170; refine ST.out.mono ?_; rintro e w1 ⟨rfl, rfl⟩) | (go_at_call 171; refine DIG.out.mono ?_; rintro e w1 ⟨rfl, rfl⟩))
     go_ret
     exact ⟨ret_bool HQ.out.symm, rfl⟩
end Go.Proofs.YtdhmpakhdhdebaaGreatDoor
namespace Go.Proofs.YtdhmpakhdhdebaaGreatDoor
open Go.Lib (hid)
open Go.RowKit
section
variable {P : Program}
theorem wp_store_row {o : Oper} {a : Act} {w : World} {K : Act -> World -> Prop} {Q : Exit -> Act -> World -> Prop} (ty : TypeId) (p x : Operand) (ho : o.op = .store ty p x)
  (g : Nat) (hp : a.eval p = .pointer (some ⟨g, 0, none⟩)) (t : TypeId) (old cells : Array Value) (hx : a.eval x = .agg cells) (hg : w.heap[g]? = some (.cells old t (0, 0))) (hi : (P.info? ty).map (·.size) = some cells.size)
  (hs : old.size = cells.size) (h1 : cells.all (·.oneCell') = true) (h : K (a.put o.dst undef) (w.setRow g cells)) : o.wp P a w K Q := by
 unfold Oper.wp execOp
 simp only [ho, hp, hx, Instr.storeAt, Instr.sureAddr, Sem.run_bind, Sem.run_pure, Result.andThen_ok, run_storeVar_row w g t ty old cells hg hi hs h1]
 exact h
theorem wpList_store_row {ops : Array Oper} {rest : List Oper} {o : Oper} {a : Act} {w : World} {Q : Exit -> Act -> World -> Prop} (hgd : o.guard = none) (ty : TypeId) (p x : Operand) (ho : o.op = .store ty p x)
  (g : Nat) (hp : a.eval p = .pointer (some ⟨g, 0, none⟩)) (t : TypeId) (old cells : Array Value) (hx : a.eval x = .agg cells) (hg : w.heap[g]? = some (.cells old t (0, 0))) (hi : (P.info? ty).map (·.size) = some cells.size)
  (hs : old.size = cells.size) (h1 : cells.all (·.oneCell') = true) (h : wpList P ops Q rest (a.put o.dst undef) (w.setRow g cells)) : wpList P ops Q (o :: rest) a w :=
 wpList_plain hgd fun _ hK => wp_store_row ty p x ho g hp t old cells hx hg hi hs h1 (hK _ _ h)
end
theorem ownsRow_below {w w' : World} {base : Nat} {e : TypeId} {size : Nat} {v : Value} {n : Nat} {xs : List Value} (h : w.ownsRow base e size v n xs) (hb : Below w.heap.size w w') : w'.ownsRow base e size v n xs := by
 refine ⟨h.1, ?_⟩
 rcases h.2 with hn | ⟨g, cap, cur, rfl, h1, h2, rest⟩
 ·exact .inl hn
 ·refine .inr ⟨g, cap, cur, rfl, h1, ?_, rest⟩
  rw [hb.block g (Array.getElem?_eq_some_iff.1 h2).1]
  exact h2
end Go.Proofs.YtdhmpakhdhdebaaGreatDoor
