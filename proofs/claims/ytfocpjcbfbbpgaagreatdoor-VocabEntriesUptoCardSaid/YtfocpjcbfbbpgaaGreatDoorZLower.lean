/-
  names.Lower and the reference's Lower: letters A to Z become small, all else stays. Contracts of both over every text. By an AI agent.
-/
import Derived.Test.YtfocpjcbfbbpgaaGreatDoorZGPlain
import Derived.Test.YtfocpjcbfbbpgaaGreatDoorProg
import Derived.Outline
import Derived.Lib.AppendStr
import Derived.Lib.Strings
namespace Go.Proofs.YtfocpjcbfbbpgaaGreatDoor
open Go.RowKit
set_option maxRecDepth 100000
set_option maxHeartbeats 400000 in
theorem lower_any (s : ByteArray) (w : World) (hs : s.size <= maxLen) :
   Calls Tryz.prog 92 #[.string s] w fun e w' => e = .returned (.string (B (lowL s.data.toList))) /\ Below w.heap.size w w' := by
 unfold maxLen at hs
 have hconv := run_bytes_of_string (P := Tryz.prog) w 9 39 5 s Tryz.underlying9 Tryz.underlying39 Tryz.underlying5
 obtain ⟨cap, hcap⟩ : ∃ cap, grownCap w s.size 0 5 = cap := ⟨_, rfl⟩
 rw [hcap] at hconv
 clear hcap
 have hrow := rowAt_bytes w s cap 5
 obtain ⟨C, hC⟩ : ∃ C, bytesRow s cap = C := ⟨_, rfl⟩
 rw [hC] at hconv hrow
 clear hC
 go_enter Tryz.func92, Tryz.ntmps92
 go_wp2
 go_loopw [10] (fun i wr => ∃ k : Nat, k <= s.size /\ i = .int .i64 k /\ Below w.heap.size w wr /\ RowAt wr w.heap.size ((lowTo k s.data.toList).map U8)) (fun i _ => s.size - (intOf i).toNat)
 case atStart => exact ⟨0, Nat.zero_le _, rfl, ((Below.refl _ _).alloc (Nat.le_refl _) _).drew, by rw [lowTo_zero]; exact hrow⟩
 case round =>
   obtain ⟨k, hk, rfl, hb, hr⟩ := hrel
   by_cases hlt : k < s.size
   · have hl : k < s.data.toList.length := by simpa using hlt
     have hlm : k < ((lowTo k s.data.toList).map U8).length := by rw [List.length_map, lowTo_length]; exact hl
     have hcell := hr.cell hlm
     have hfree := hr.free hlm
     rw [u8_map _ _ (by rw [lowTo_length]; exact hl), lowTo_at _ _ hl] at hcell
     have HS : Hid ((lowTo k s.data.toList).set k (lowB s.data.toList[k]) = lowTo (k + 1) s.data.toList) := lowTo_set _ _ hl
     obtain ⟨c, hc⟩ : ∃ c, s.data.toList[k] = c := ⟨_, rfl⟩
     rw [hc] at hcell HS
     have HC := Lib.hid hc
     clear hc
     go_wp2
     · refine ⟨⟨k + 1, by omega, by go_num, hb.setCell (Nat.le_refl _) _, low_store hr hl HS.out ‹_› ‹_›⟩, by simp [intOf]; omega⟩
     · refine ⟨⟨k + 1, by omega, by go_num, hb, low_keep hr hl HC.out (.inr (by omega))⟩, by simp [intOf]; omega⟩
     · refine ⟨⟨k + 1, by omega, by go_num, hb, low_keep hr hl HC.out (.inl (by omega))⟩, by simp [intOf]; omega⟩
   · obtain rfl : k = s.size := by omega
     have hall : lowTo s.size s.data.toList = lowL s.data.toList := lowTo_all s.data.toList
     rw [hall] at hr
     clear hall
     have hback := back_of_row (P := Tryz.prog) wr 39 9 5 w.heap.size cap s.size (lowL s.data.toList) (by simp [lowL]) Tryz.underlying39 Tryz.underlying5 Tryz.underlying9 hr
     go_wp2
     go_ret
     exact ⟨rfl, hb⟩
set_option maxHeartbeats 400000 in
theorem refLower_any (s : ByteArray) (w : World) (hs : s.size <= maxLen) :
   Calls Tryz.prog 159 #[.string s] w fun e w' => e = .returned (.string (B (lowL s.data.toList))) /\ Below w.heap.size w w' := by
 unfold maxLen at hs
 have hconv := run_bytes_of_string (P := Tryz.prog) w 9 39 5 s Tryz.underlying9 Tryz.underlying39 Tryz.underlying5
 obtain ⟨cap, hcap⟩ : ∃ cap, grownCap w s.size 0 5 = cap := ⟨_, rfl⟩
 rw [hcap] at hconv
 clear hcap
 have hrow := rowAt_bytes w s cap 5
 obtain ⟨C, hC⟩ : ∃ C, bytesRow s cap = C := ⟨_, rfl⟩
 rw [hC] at hconv hrow
 clear hC
 go_enter Tryz.func159, Tryz.ntmps159
 go_wp2
 go_loopw [4] (fun i wr => ∃ k : Nat, k <= s.size /\ i = .int .i64 k /\ Below w.heap.size w wr /\ RowAt wr w.heap.size ((lowTo k s.data.toList).map U8)) (fun i _ => s.size - (intOf i).toNat)
 case atStart => exact ⟨0, Nat.zero_le _, rfl, ((Below.refl _ _).alloc (Nat.le_refl _) _).drew, by rw [lowTo_zero]; exact hrow⟩
 case round =>
   obtain ⟨k, hk, rfl, hb, hr⟩ := hrel
   by_cases hlt : k < s.size
   · have hl : k < s.data.toList.length := by simpa using hlt
     have hlm : k < ((lowTo k s.data.toList).map U8).length := by rw [List.length_map, lowTo_length]; exact hl
     have hcell := hr.cell hlm
     have hfree := hr.free hlm
     rw [u8_map _ _ (by rw [lowTo_length]; exact hl), lowTo_at _ _ hl] at hcell
     have HS : Hid ((lowTo k s.data.toList).set k (lowB s.data.toList[k]) = lowTo (k + 1) s.data.toList) := lowTo_set _ _ hl
     obtain ⟨c, hc⟩ : ∃ c, s.data.toList[k] = c := ⟨_, rfl⟩
     rw [hc] at hcell HS
     have HC := Lib.hid hc
     clear hc
     go_wp2
     · refine ⟨⟨k + 1, by omega, by go_num, hb.setCell (Nat.le_refl _) _, low_store hr hl HS.out ‹_› ‹_›⟩, by simp [intOf]; omega⟩
     · refine ⟨⟨k + 1, by omega, by go_num, hb, low_keep hr hl HC.out (.inr (by omega))⟩, by simp [intOf]; omega⟩
     · refine ⟨⟨k + 1, by omega, by go_num, hb, low_keep hr hl HC.out (.inl (by omega))⟩, by simp [intOf]; omega⟩
   · obtain rfl : k = s.size := by omega
     have hall : lowTo s.size s.data.toList = lowL s.data.toList := lowTo_all s.data.toList
     rw [hall] at hr
     clear hall
     have hback := back_of_row (P := Tryz.prog) wr 39 9 5 w.heap.size cap s.size (lowL s.data.toList) (by simp [lowL]) Tryz.underlying39 Tryz.underlying5 Tryz.underlying9 hr
     go_wp2
     go_ret
     exact ⟨rfl, hb⟩
theorem lower_l (l : List UInt8) (w : World) (hs : l.length <= maxLen) :
   Calls Tryz.prog 92 #[.string (B l)] w fun e w' => e = .returned (.string (B (lowL l))) /\ Below w.heap.size w w' := by
 have h := lower_any (B l) w (by rw [B_size]; exact hs)
 rw [B_toList] at h
 exact h
theorem refLower_l (l : List UInt8) (w : World) (hs : l.length <= maxLen) :
   Calls Tryz.prog 159 #[.string (B l)] w fun e w' => e = .returned (.string (B (lowL l))) /\ Below w.heap.size w w' := by
 have h := refLower_any (B l) w (by rw [B_size]; exact hs)
 rw [B_toList] at h
 exact h
end Go.Proofs.YtfocpjcbfbbpgaaGreatDoor
namespace Go.Proofs.YtfocpjcbfbbpgaaGreatDoor
open Go.RowKit
set_option maxRecDepth 100000
theorem infoStr : (Tryz.prog.info? 9).map (fun i => (i.zero, i.size, i.bytes)) = some (some (.string ⟨#[]⟩), 1, 16) := by kernel_rfl
theorem infoU8 : (Tryz.prog.info? 5).map (fun i => (i.zero, i.size, i.bytes)) = some (some (.int .u8 0), 1, 1) := by kernel_rfl
theorem extract_B (s : ByteArray) (a b : Nat) : Value.string (s.extract a b) = strV ((s.data.toList.drop a).take (b - a)) := by
 unfold strV B
 rw [Lib.extract_eq]
def PartsAt (l : List UInt8) (k f : Nat) (ps : List (List UInt8)) : Prop := f <= k /\ k <= l.length /\ ps.length <= f /\ partsOf l = ps ++ partsOf (l.drop f) /\ ∀ c ∈ (l.drop f).take (k - f), c ≠ 45
theorem PartsAt.zero (l : List UInt8) : PartsAt l 0 0 [] := ⟨Nat.le_refl _, Nat.zero_le _, Nat.le_refl _, by simp, by simp⟩
theorem PartsAt.other {l : List UInt8} {k f : Nat} {ps : List (List UInt8)} (h : PartsAt l k f ps) (hk : k < l.length) (hc : l[k] ≠ 45) : PartsAt l (k + 1) f ps := by
 obtain ⟨h1, h2, h3, h4, h5⟩ := h
 refine ⟨by omega, by omega, h3, h4, ?_⟩
 intro c hcm
 rw [show k + 1 - f = (k - f) + 1 by omega, List.take_succ_eq_append_getElem (by simp; omega)] at hcm
 rcases List.mem_append.1 hcm with hcm | hcm
 · exact h5 c hcm
 · simp at hcm
   subst hcm
   simpa [show f + (k - f) = k by omega] using hc
theorem PartsAt.hyphen {l : List UInt8} {k f : Nat} {ps : List (List UInt8)} (h : PartsAt l k f ps) (hk : k < l.length) (hc : l[k] = 45) : PartsAt l (k + 1) (k + 1) (ps ++ [(l.drop f).take (k - f)]) := by
 obtain ⟨h1, h2, h3, h4, h5⟩ := h
 refine ⟨Nat.le_refl _, by omega, by simp; omega, ?_, by simp⟩
 have e : l.drop f = (l.drop f).take (k - f) ++ 45 :: l.drop (k + 1) := by
   conv => lhs; rw [<- List.take_append_drop (k - f) (l.drop f)]
   rw [List.drop_drop, show f + (k - f) = k by omega, List.drop_eq_getElem_cons hk, hc]
 rw [h4]
 conv => lhs; rw [e, partsOf_cut _ _ h5]
 simp
theorem PartsAt.done {l : List UInt8} {f : Nat} {ps : List (List UInt8)} (h : PartsAt l l.length f ps) : partsOf l = ps ++ [l.drop f] := by
 obtain ⟨h1, h2, h3, h4, h5⟩ := h
 rw [h4, partsOf_plain (l.drop f) (by rw [List.take_of_length_le (by simp)] at h5; exact h5)]
set_option maxHeartbeats 400000 in
theorem refParts_any (s : ByteArray) (w : World) (hs : s.size <= 16777216) :
   Calls Tryz.prog 158 #[.string s] w fun e w' => ∃ v, e = .returned v /\ w'.ownsRow w.heap.size 9 1 v (partsOf s.data.toList).length ((partsOf s.data.toList).map strV) /\ Below w.heap.size w w' := by
 obtain ⟨i0, hi, hz0, hz1, hz2⟩ := info_parts infoStr
 go_enter Tryz.func158, Tryz.ntmps158
 go_wp2
 go_loopw [3, 4, 5] (fun v f i wr => ∃ (k fn : Nat) (ps : List (List UInt8)), k <= s.size /\ i = .int .i64 k /\ f = .int .i64 fn /\ PartsAt s.data.toList k fn ps /\ wr.ownsRow w.heap.size 9 1 v ps.length (ps.map strV) /\ Below w.heap.size w wr) (fun _ _ i _ => s.size - (intOf i).toNat)
 case atStart => exact ⟨0, 0, [], Nat.zero_le _, rfl, rfl, PartsAt.zero _, World.ownsRow_nil _ _ _ _, Below.refl _ _⟩
 case round =>
   obtain ⟨k, fn, ps, hk, rfl, rfl, hp, hown, hb⟩ := hrel
   have hfk : fn <= k := hp.1
   have hpl : ps.length <= fn := hp.2.2.1
   have hp' := Lib.hid hp
   clear hp
   by_cases hlt : k < s.size
   · have hl : k < s.data.toList.length := by simpa using hlt
     have hsk : s.data.toList[k] = s[k] := rfl
     by_cases hc : s[k] = 45
     · have HP := Lib.hid (hp'.out.hyphen hl (by rw [hsk]; exact hc))
       have hq : ((s[k].toNat : Int) == 45) = true := byte_eq hc
       clear hc hsk
       go_wp2_with (at_builtin; refine wpList_append_own _ rfl (.tmp 16) (.tmp 21) 141 rfl w.heap.size 9 i0 (.string ⟨#[]⟩) 1 16 Tryz.underlying141 hi hz0 hz1 hz2 rfl (by decide) _ _ _ rfl (hown.alloc _) ⟨wr.heap.size, 0, none⟩ 1 1 [.string (s.extract fn k)] rfl rfl ?c1 ?c2 ?c3 ?c4 ?c5 ?_)
       case c1 => exact cell_one _ _ _
       case c2 => intro u hu; simp at hu; subst hu; rfl
       case c3 => unfold maxLen; omega
       case c4 => omega
       case c5 => have := hb.size; simp; omega
       intro v' w1 hown1 hg1 _
       rw [extract_B] at hown1
       have hown2 : w1.ownsRow w.heap.size 9 1 v' (ps ++ [(s.data.toList.drop fn).take (k - fn)]).length ((ps ++ [(s.data.toList.drop fn).take (k - fn)]).map strV) := by simpa using hown1
       have hb1 : Below w.heap.size w w1 := (hb.alloc hb.size _).grown hg1 (by have := hb.size; simp; omega) (fun j hj => (hown.lt j hj).1)
       clear hown hown1 hg1 hb hp'
       go_wp2
       go_roundw
       case rel => exact ⟨k + 1, k + 1, _, by omega, by go_num, by go_num, HP.out, hown2, hb1⟩
       case measure => simp [intOf]; omega
     · have HP := Lib.hid (hp'.out.other hl (by rw [hsk]; exact hc))
       have hq : ((s[k].toNat : Int) == 45) = false := byte_ne hc
       clear hc hsk
       go_wp2
       go_roundw
       case rel => exact ⟨k + 1, fn, ps, by omega, by go_num, rfl, HP.out, hown, hb⟩
       case measure => simp [intOf]; omega
   · obtain rfl : k = s.size := by omega
     have hdone := (show PartsAt s.data.toList s.data.toList.length fn ps by simpa using hp'.out).done
     have Hd := Lib.hid hdone
     clear hdone
     go_wp2_with (at_builtin; refine wpList_append_own _ rfl (.tmp 25) (.tmp 29) 141 rfl w.heap.size 9 i0 (.string ⟨#[]⟩) 1 16 Tryz.underlying141 hi hz0 hz1 hz2 rfl (by decide) _ _ _ rfl (hown.alloc _) ⟨wr.heap.size, 0, none⟩ 1 1 [.string (s.extract fn s.size)] rfl rfl ?c1 ?c2 ?c3 ?c4 ?c5 ?_)
     case c1 => exact cell_one _ _ _
     case c2 => intro u hu; simp at hu; subst hu; rfl
     case c3 => unfold maxLen; omega
     case c4 => omega
     case c5 => have := hb.size; simp; omega
     intro v' w1 hown1 hg1 _
     rw [extract_B] at hown1
     have hown2 : w1.ownsRow w.heap.size 9 1 v' (partsOf s.data.toList).length ((partsOf s.data.toList).map strV) := by
       rw [Hd.out]
       rw [List.take_of_length_le (by simp)] at hown1
       simpa using hown1
     have hb1 : Below w.heap.size w w1 := (hb.alloc hb.size _).grown hg1 (by have := hb.size; simp; omega) (fun j hj => (hown.lt j hj).1)
     clear hown hown1 hg1 hb hp' Hd
     go_wp2
     go_ret
     exact ⟨_, rfl, hown2, hb1⟩
theorem refParts_l (l : List UInt8) (w : World) (hs : l.length <= 16777216) :
   Calls Tryz.prog 158 #[.string (B l)] w fun e w' => ∃ v, e = .returned v /\ w'.ownsRow w.heap.size 9 1 v (partsOf l).length ((partsOf l).map strV) /\ Below w.heap.size w w' := by
 have h := refParts_any (B l) w (by rw [B_size]; exact hs)
 rw [B_toList] at h
 exact h
end Go.Proofs.YtfocpjcbfbbpgaaGreatDoor
