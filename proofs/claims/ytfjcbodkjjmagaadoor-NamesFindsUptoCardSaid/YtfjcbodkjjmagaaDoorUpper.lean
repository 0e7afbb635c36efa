/-
  names.upper and the reference's upper: letters a to z become great, all else stays. By an AI agent.
-/
import Derived.Test.YtfjcbodkjjmagaaDoorLower
namespace Go.Proofs.YtfjcbodkjjmagaaDoor
open Go.RowKit
set_option maxRecDepth 100000

def uppB (c : UInt8) : UInt8 := if 97 ≤ c.toNat ∧ c.toNat ≤ 122 then c - 32 else c
def uppL (l : List UInt8) : List UInt8 := l.map uppB
/-- the first k bytes made small -/
def uppTo (k : Nat) (l : List UInt8) : List UInt8 := (l.take k).map uppB ++ l.drop k

theorem uppTo_length (k : Nat) (l : List UInt8) : (uppTo k l).length = l.length := by simp [uppTo]; omega
theorem uppTo_zero (l : List UInt8) : uppTo 0 l = l := by simp [uppTo]
theorem uppTo_all (l : List UInt8) : uppTo l.length l = uppL l := by simp [uppTo, uppL]
theorem uppTo_at (k : Nat) (l : List UInt8) (h : k < l.length) : (uppTo k l)[k]'(by rw [uppTo_length]; exact h) = l[k] := by
  unfold uppTo
  rw [List.getElem_append_right (by simp; omega)]
  simp [Nat.min_eq_left (Nat.le_of_lt h)]
theorem uppTo_set (k : Nat) (l : List UInt8) (h : k < l.length) : (uppTo k l).set k (uppB l[k]) = uppTo (k + 1) l := by
  unfold uppTo
  rw [List.set_append_right _ _ (by simp; omega), List.length_map, List.length_take, Nat.min_eq_left (Nat.le_of_lt h), Nat.sub_self, List.drop_eq_getElem_cons h, List.set_cons_zero,
    List.take_succ_eq_append_getElem h, List.map_append, List.append_assoc]
  simp
theorem uppTo_keep (k : Nat) (l : List UInt8) (h : k < l.length) (hn : uppB l[k] = l[k]) : uppTo (k + 1) l = uppTo k l := by
  rw [← uppTo_set k l h, hn]
  have := uppTo_at k l h
  rw [← this, List.set_getElem_self]
theorem uppB_mid (c : UInt8) (h1 : 97 ≤ (c.toNat : Int)) (h2 : (c.toNat : Int) ≤ 122) : ((uppB c).toNat : Int) = (c.toNat : Int) - 32 := by
  unfold uppB
  rw [if_pos ⟨by omega, by omega⟩, UInt8.toNat_sub]
  simp
  omega
theorem uppB_out (c : UInt8) (h : (c.toNat : Int) < 97 ∨ 122 < (c.toNat : Int)) : uppB c = c := by
  unfold uppB
  rw [if_neg (by omega)]
theorem upp_store {wr : World} {g k : Nat} {l : List UInt8} {c : UInt8} (hr : RowAt wr g ((uppTo k l).map U8)) (hk : k < l.length) (HS : (uppTo k l).set k (uppB c) = uppTo (k + 1) l)
    (h1 : 97 ≤ (c.toNat : Int)) (h2 : (c.toNat : Int) ≤ 122) : RowAt (wr.setCell ⟨g, k, none⟩ (.int .u8 ((c.toNat : Int) - 32))) g ((uppTo (k + 1) l).map U8) := by
  rw [← HS, ← uppB_mid c h1 h2]
  exact hr.set_u8 (by rw [uppTo_length]; exact hk) _
theorem upp_keep {wr : World} {g k : Nat} {l : List UInt8} {c : UInt8} (hr : RowAt wr g ((uppTo k l).map U8)) (hk : k < l.length) (hc : l[k] = c) (h : (c.toNat : Int) < 97 ∨ 122 < (c.toNat : Int)) :
    RowAt wr g ((uppTo (k + 1) l).map U8) := by
  rw [uppTo_keep k l hk (by rw [hc]; exact uppB_out c h)]
  exact hr

set_option maxHeartbeats 400000 in
theorem upper_any (s : ByteArray) (w : World) (hs : s.size ≤ maxLen) :
    Calls Tryd.prog 78 #[.string s] w fun e w' => e = .returned (.string (B (uppL s.data.toList))) ∧ Below w.heap.size w w' := by
  unfold maxLen at hs
  have hconv := run_bytes_of_string (P := Tryd.prog) w 9 68 5 s Tryd.underlying9 Tryd.underlying68 Tryd.underlying5
  obtain ⟨cap, hcap⟩ : ∃ cap, grownCap w s.size 0 5 = cap := ⟨_, rfl⟩
  rw [hcap] at hconv
  clear hcap
  have hrow := rowAt_bytes w s cap 5
  obtain ⟨C, hC⟩ : ∃ C, bytesRow s cap = C := ⟨_, rfl⟩
  rw [hC] at hconv hrow
  clear hC
  go_enter Tryd.func78, Tryd.ntmps78
  go_wp2
  go_loopw [10] (fun i wr => ∃ k : Nat, k ≤ s.size ∧ i = .int .i64 k ∧ Below w.heap.size w wr ∧ RowAt wr w.heap.size ((uppTo k s.data.toList).map U8)) (fun i _ => s.size - (intOf i).toNat)
  case atStart => exact ⟨0, Nat.zero_le _, rfl, ((Below.refl _ _).alloc (Nat.le_refl _) _).drew, by rw [uppTo_zero]; exact hrow⟩
  case round =>
    obtain ⟨k, hk, rfl, hb, hr⟩ := hrel
    by_cases hlt : k < s.size
    · have hl : k < s.data.toList.length := by simpa using hlt
      have hlm : k < ((uppTo k s.data.toList).map U8).length := by rw [List.length_map, uppTo_length]; exact hl
      have hcell := hr.cell hlm
      have hfree := hr.free hlm
      rw [u8_map _ _ (by rw [uppTo_length]; exact hl), uppTo_at _ _ hl] at hcell
      have HS : Hid ((uppTo k s.data.toList).set k (uppB s.data.toList[k]) = uppTo (k + 1) s.data.toList) := uppTo_set _ _ hl
      obtain ⟨c, hc⟩ : ∃ c, s.data.toList[k] = c := ⟨_, rfl⟩
      rw [hc] at hcell HS
      have HC := Lib.hid hc
      clear hc
      go_wp2
      · refine ⟨⟨k + 1, by omega, by go_num, hb.setCell (Nat.le_refl _) _, upp_store hr hl HS.out ‹_› ‹_›⟩, by simp [intOf]; omega⟩
      · refine ⟨⟨k + 1, by omega, by go_num, hb, upp_keep hr hl HC.out (.inr (by omega))⟩, by simp [intOf]; omega⟩
      · refine ⟨⟨k + 1, by omega, by go_num, hb, upp_keep hr hl HC.out (.inl (by omega))⟩, by simp [intOf]; omega⟩
    · obtain rfl : k = s.size := by omega
      have hall : uppTo s.size s.data.toList = uppL s.data.toList := uppTo_all s.data.toList
      rw [hall] at hr
      clear hall
      have hback := back_of_row (P := Tryd.prog) wr 68 9 5 w.heap.size cap s.size (uppL s.data.toList) (by simp [uppL]) Tryd.underlying68 Tryd.underlying5 Tryd.underlying9 hr
      go_wp2
      go_ret
      exact ⟨rfl, hb⟩
set_option maxHeartbeats 400000 in
theorem refUpper_any (s : ByteArray) (w : World) (hs : s.size ≤ maxLen) :
    Calls Tryd.prog 79 #[.string s] w fun e w' => e = .returned (.string (B (uppL s.data.toList))) ∧ Below w.heap.size w w' := by
  unfold maxLen at hs
  have hconv := run_bytes_of_string (P := Tryd.prog) w 9 68 5 s Tryd.underlying9 Tryd.underlying68 Tryd.underlying5
  obtain ⟨cap, hcap⟩ : ∃ cap, grownCap w s.size 0 5 = cap := ⟨_, rfl⟩
  rw [hcap] at hconv
  clear hcap
  have hrow := rowAt_bytes w s cap 5
  obtain ⟨C, hC⟩ : ∃ C, bytesRow s cap = C := ⟨_, rfl⟩
  rw [hC] at hconv hrow
  clear hC
  go_enter Tryd.func79, Tryd.ntmps79
  go_wp2
  go_loopw [4] (fun i wr => ∃ k : Nat, k ≤ s.size ∧ i = .int .i64 k ∧ Below w.heap.size w wr ∧ RowAt wr w.heap.size ((uppTo k s.data.toList).map U8)) (fun i _ => s.size - (intOf i).toNat)
  case atStart => exact ⟨0, Nat.zero_le _, rfl, ((Below.refl _ _).alloc (Nat.le_refl _) _).drew, by rw [uppTo_zero]; exact hrow⟩
  case round =>
    obtain ⟨k, hk, rfl, hb, hr⟩ := hrel
    by_cases hlt : k < s.size
    · have hl : k < s.data.toList.length := by simpa using hlt
      have hlm : k < ((uppTo k s.data.toList).map U8).length := by rw [List.length_map, uppTo_length]; exact hl
      have hcell := hr.cell hlm
      have hfree := hr.free hlm
      rw [u8_map _ _ (by rw [uppTo_length]; exact hl), uppTo_at _ _ hl] at hcell
      have HS : Hid ((uppTo k s.data.toList).set k (uppB s.data.toList[k]) = uppTo (k + 1) s.data.toList) := uppTo_set _ _ hl
      obtain ⟨c, hc⟩ : ∃ c, s.data.toList[k] = c := ⟨_, rfl⟩
      rw [hc] at hcell HS
      have HC := Lib.hid hc
      clear hc
      go_wp2
      · refine ⟨⟨k + 1, by omega, by go_num, hb.setCell (Nat.le_refl _) _, upp_store hr hl HS.out ‹_› ‹_›⟩, by simp [intOf]; omega⟩
      · refine ⟨⟨k + 1, by omega, by go_num, hb, upp_keep hr hl HC.out (.inr (by omega))⟩, by simp [intOf]; omega⟩
      · refine ⟨⟨k + 1, by omega, by go_num, hb, upp_keep hr hl HC.out (.inl (by omega))⟩, by simp [intOf]; omega⟩
    · obtain rfl : k = s.size := by omega
      have hall : uppTo s.size s.data.toList = uppL s.data.toList := uppTo_all s.data.toList
      rw [hall] at hr
      clear hall
      have hback := back_of_row (P := Tryd.prog) wr 68 9 5 w.heap.size cap s.size (uppL s.data.toList) (by simp [uppL]) Tryd.underlying68 Tryd.underlying5 Tryd.underlying9 hr
      go_wp2
      go_ret
      exact ⟨rfl, hb⟩
theorem upper_l (l : List UInt8) (w : World) (hs : l.length ≤ maxLen) :
    Calls Tryd.prog 78 #[.string (B l)] w fun e w' => e = .returned (.string (B (uppL l))) ∧ Below w.heap.size w w' := by
  have h := upper_any (B l) w (by rw [B_size]; exact hs)
  rw [B_toList] at h
  exact h
theorem refUpper_l (l : List UInt8) (w : World) (hs : l.length ≤ maxLen) :
    Calls Tryd.prog 79 #[.string (B l)] w fun e w' => e = .returned (.string (B (uppL l))) ∧ Below w.heap.size w w' := by
  have h := refUpper_any (B l) w (by rw [B_size]; exact hs)
  rw [B_toList] at h
  exact h
end Go.Proofs.YtfjcbodkjjmagaaDoor
