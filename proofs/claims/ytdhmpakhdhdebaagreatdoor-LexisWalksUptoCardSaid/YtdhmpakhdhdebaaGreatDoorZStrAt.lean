/-
  names.Lower and the reference's Lower: letters A to Z become small, all else stays. Contracts of both over every text. By an AI agent.
-/
import Derived.Test.YtdhmpakhdhdebaaGreatDoorZGPlain
import Derived.Test.YtdhmpakhdhdebaaGreatDoorProg
import Derived.BigQuiet
namespace Go.Proofs.YtdhmpakhdhdebaaGreatDoor
open Go.Lib (hid)
open Go.RowKit
set_option maxRecDepth 100000
set_option maxHeartbeats 400000 in
theorem lower_any (s : ByteArray) (w : World) (hs : s.size <= maxLen) :
  Calls Tryz.prog 101 #[.string s] w fun e w' => e = .returned (.string (B (lowL s.data.toList))) /\ Below w.heap.size w w' := by
 unfold maxLen at hs
 have hconv := run_bytes_of_string (P := Tryz.prog) w 9 35 5 s Tryz.underlying9 Tryz.underlying35 Tryz.underlying5
 obtain ⟨cap, hcap⟩ : ∃ cap, grownCap w s.size 0 5 = cap := ⟨_, rfl⟩
 rw [hcap] at hconv
 clear hcap
 have hrow := rowAt_bytes w s cap 5
 obtain ⟨C, hC⟩ : ∃ C, bytesRow s cap = C := ⟨_, rfl⟩
 rw [hC] at hconv hrow
 clear hC
 go_enter Tryz.func101, Tryz.ntmps101
 go_wp2
 go_loopw [10] (fun i wr => ∃ k : Nat, k <= s.size /\ i = .int .i64 k /\ Below w.heap.size w wr /\ RowAt wr w.heap.size ((lowTo k s.data.toList).map U8)) (fun i _ => s.size - (intOf i).toNat)
 case atStart => exact ⟨0, Nat.zero_le _, rfl, ((Below.refl _ _).alloc (Nat.le_refl _) _).drew, by rw [lowTo_zero]; exact hrow⟩
 case round =>
  obtain ⟨k, hk, rfl, hb, hr⟩ := hrel
  by_cases hlt : k < s.size
  ·have hl : k < s.data.toList.length := by simpa using hlt
   have hlm : k < ((lowTo k s.data.toList).map U8).length := by rw [List.length_map, lowTo_length]; exact hl
   have hcell := hr.cell hlm
   have hfree := hr.free hlm
   rw [u8_map _ _ (by rw [lowTo_length]; exact hl), lowTo_at _ _ hl] at hcell
   have HS : Hid ((lowTo k s.data.toList).set k (lowB s.data.toList[k]) = lowTo (k + 1) s.data.toList) := lowTo_set _ _ hl
   obtain ⟨c, hc⟩ : ∃ c, s.data.toList[k] = c := ⟨_, rfl⟩
   rw [hc] at hcell HS
   have HC := hid hc
   clear hc
   go_wp2
   ·refine ⟨⟨k + 1, by omega, by go_num, hb.setCell (Nat.le_refl _) _, low_store hr hl HS.out ‹_› ‹_›⟩, by simp [intOf]; omega⟩
   ·refine ⟨⟨k + 1, by omega, by go_num, hb, low_keep hr hl HC.out (.inr (by omega))⟩, by simp [intOf]; omega⟩
   ·refine ⟨⟨k + 1, by omega, by go_num, hb, low_keep hr hl HC.out (.inl (by omega))⟩, by simp [intOf]; omega⟩
  ·obtain rfl : k = s.size := by omega
   have hall : lowTo s.size s.data.toList = lowL s.data.toList := lowTo_all s.data.toList
   rw [hall] at hr
   clear hall
   have hback := back_of_row (P := Tryz.prog) wr 35 9 5 w.heap.size cap s.size (lowL s.data.toList) (by simp [lowL]) Tryz.underlying35 Tryz.underlying5 Tryz.underlying9 hr
   go_wp2
   go_ret
   exact ⟨rfl, hb⟩
set_option maxHeartbeats 400000 in
theorem refLower_any (s : ByteArray) (w : World) (hs : s.size <= maxLen) :
  Calls Tryz.prog 167 #[.string s] w fun e w' => e = .returned (.string (B (lowL s.data.toList))) /\ Below w.heap.size w w' := by
 unfold maxLen at hs
 have hconv := run_bytes_of_string (P := Tryz.prog) w 9 35 5 s Tryz.underlying9 Tryz.underlying35 Tryz.underlying5
 obtain ⟨cap, hcap⟩ : ∃ cap, grownCap w s.size 0 5 = cap := ⟨_, rfl⟩
 rw [hcap] at hconv
 clear hcap
 have hrow := rowAt_bytes w s cap 5
 obtain ⟨C, hC⟩ : ∃ C, bytesRow s cap = C := ⟨_, rfl⟩
 rw [hC] at hconv hrow
 clear hC
 go_enter Tryz.func167, Tryz.ntmps167
 go_wp2
 go_loopw [4] (fun i wr => ∃ k : Nat, k <= s.size /\ i = .int .i64 k /\ Below w.heap.size w wr /\ RowAt wr w.heap.size ((lowTo k s.data.toList).map U8)) (fun i _ => s.size - (intOf i).toNat)
 case atStart => exact ⟨0, Nat.zero_le _, rfl, ((Below.refl _ _).alloc (Nat.le_refl _) _).drew, by rw [lowTo_zero]; exact hrow⟩
 case round =>
  obtain ⟨k, hk, rfl, hb, hr⟩ := hrel
  by_cases hlt : k < s.size
  ·have hl : k < s.data.toList.length := by simpa using hlt
   have hlm : k < ((lowTo k s.data.toList).map U8).length := by rw [List.length_map, lowTo_length]; exact hl
   have hcell := hr.cell hlm
   have hfree := hr.free hlm
   rw [u8_map _ _ (by rw [lowTo_length]; exact hl), lowTo_at _ _ hl] at hcell
   have HS : Hid ((lowTo k s.data.toList).set k (lowB s.data.toList[k]) = lowTo (k + 1) s.data.toList) := lowTo_set _ _ hl
   obtain ⟨c, hc⟩ : ∃ c, s.data.toList[k] = c := ⟨_, rfl⟩
   rw [hc] at hcell HS
   have HC := hid hc
   clear hc
   go_wp2
   ·refine ⟨⟨k + 1, by omega, by go_num, hb.setCell (Nat.le_refl _) _, low_store hr hl HS.out ‹_› ‹_›⟩, by simp [intOf]; omega⟩
   ·refine ⟨⟨k + 1, by omega, by go_num, hb, low_keep hr hl HC.out (.inr (by omega))⟩, by simp [intOf]; omega⟩
   ·refine ⟨⟨k + 1, by omega, by go_num, hb, low_keep hr hl HC.out (.inl (by omega))⟩, by simp [intOf]; omega⟩
  ·obtain rfl : k = s.size := by omega
   have hall : lowTo s.size s.data.toList = lowL s.data.toList := lowTo_all s.data.toList
   rw [hall] at hr
   clear hall
   have hback := back_of_row (P := Tryz.prog) wr 35 9 5 w.heap.size cap s.size (lowL s.data.toList) (by simp [lowL]) Tryz.underlying35 Tryz.underlying5 Tryz.underlying9 hr
   go_wp2
   go_ret
   exact ⟨rfl, hb⟩
theorem lower_l (l : List UInt8) (w : World) (hs : l.length <= maxLen) :
  Calls Tryz.prog 101 #[.string (B l)] w fun e w' => e = .returned (.string (B (lowL l))) /\ Below w.heap.size w w' := by
 have h := lower_any (B l) w (by rw [B_size]; exact hs)
 rw [B_toList] at h
 exact h
theorem refLower_l (l : List UInt8) (w : World) (hs : l.length <= maxLen) :
  Calls Tryz.prog 167 #[.string (B l)] w fun e w' => e = .returned (.string (B (lowL l))) /\ Below w.heap.size w w' := by
 have h := refLower_any (B l) w (by rw [B_size]; exact hs)
 rw [B_toList] at h
 exact h
end Go.Proofs.YtdhmpakhdhdebaaGreatDoor
namespace Go.Proofs.YtdhmpakhdhdebaaGreatDoor
open Go.Lib (hid)
open Go.RowKit
set_option maxRecDepth 100000
theorem infoStr : (Tryz.prog.info? 9).map (fun i => (i.zero, i.size, i.bytes)) = some (some (.string ⟨#[]⟩), 1, 16) := by kernel_rfl
theorem infoU8 : (Tryz.prog.info? 5).map (fun i => (i.zero, i.size, i.bytes)) = some (some (.int .u8 0), 1, 1) := by kernel_rfl
theorem extract_B (s : ByteArray) (a b : Nat) : Value.string (s.extract a b) = strV ((s.data.toList.drop a).take (b - a)) := by
 unfold strV B
 rw [Lib.extract_eq]
def PartsAt (l : List UInt8) (k f : Nat) (ps : List (List UInt8)) : Prop := f <= k /\ k <= l.length /\ ps.length <= f /\ partsOf l = ps ++ partsOf (l.drop f) /\ ∀ c ∈ (l.drop f).take (k - f), c ≠ 45
theorem PartsAt.zero (l : List UInt8) : PartsAt l 0 0 [] := ⟨Nat.le_refl _, Nat.zero_le _, Nat.le_refl _, by simp, by simp⟩
theorem PartsAt.other {l : List UInt8} {k f : Nat} {ps : List (List UInt8)} (h : PartsAt l k f ps) (hk : k < l.length) (hc : l[k] ≠ 45) : PartsAt l (k + 1) f ps := by
 obtain ⟨h1, h2, h3, h4, h5⟩ := h
 refine ⟨by omega, by omega, h3, h4, ?_⟩
 intro c hcm
 rw [show k + 1 - f = (k - f) + 1 by omega, List.take_succ_eq_append_getElem (by simp; omega)] at hcm
 rcases List.mem_append.1 hcm with hcm | hcm
 ·exact h5 c hcm
 ·simp at hcm
  subst hcm
  simpa [show f + (k - f) = k by omega] using hc
theorem PartsAt.hyphen {l : List UInt8} {k f : Nat} {ps : List (List UInt8)} (h : PartsAt l k f ps) (hk : k < l.length) (hc : l[k] = 45) : PartsAt l (k + 1) (k + 1) (ps ++ [(l.drop f).take (k - f)]) := by
 obtain ⟨h1, h2, h3, h4, h5⟩ := h
 refine ⟨Nat.le_refl _, by omega, by simp; omega, ?_, by simp⟩
 have e : l.drop f = (l.drop f).take (k - f) ++ 45 :: l.drop (k + 1) := by
  conv => lhs; rw [<- List.take_append_drop (k - f) (l.drop f)]
  rw [List.drop_drop, show f + (k - f) = k by omega, List.drop_eq_getElem_cons hk, hc]
 rw [h4]
 conv => lhs; rw [e, partsOf_cut _ _ h5]
 simp
theorem PartsAt.done {l : List UInt8} {f : Nat} {ps : List (List UInt8)} (h : PartsAt l l.length f ps) : partsOf l = ps ++ [l.drop f] := by
 obtain ⟨h1, h2, h3, h4, h5⟩ := h
 rw [h4, partsOf_plain (l.drop f) (by rw [List.take_of_length_le (by simp)] at h5; exact h5)]
set_option maxHeartbeats 400000 in
theorem refParts_any (s : ByteArray) (w : World) (hs : s.size <= 16777216) :
  Calls Tryz.prog 211 #[.string s] w fun e w' => ∃ v, e = .returned v /\ w'.ownsRow w.heap.size 9 1 v (partsOf s.data.toList).length ((partsOf s.data.toList).map strV) /\ Below w.heap.size w w' := by
 obtain ⟨i0, hi, hz0, hz1, hz2⟩ := info_parts infoStr
 go_enter Tryz.func211, Tryz.ntmps211
 go_wp2
 go_loopw [3, 4, 5] (fun v f i wr => ∃ (k fn : Nat) (ps : List (List UInt8)), k <= s.size /\ i = .int .i64 k /\ f = .int .i64 fn /\ PartsAt s.data.toList k fn ps /\ wr.ownsRow w.heap.size 9 1 v ps.length (ps.map strV) /\ Below w.heap.size w wr) (fun _ _ i _ => s.size - (intOf i).toNat)
 case atStart => exact ⟨0, 0, [], Nat.zero_le _, rfl, rfl, PartsAt.zero _, World.ownsRow_nil _ _ _ _, Below.refl _ _⟩
 case round =>
  obtain ⟨k, fn, ps, hk, rfl, rfl, hp, hown, hb⟩ := hrel
  have hfk : fn <= k := hp.1
  have hpl : ps.length <= fn := hp.2.2.1
  have hp' := hid hp
  clear hp
  by_cases hlt : k < s.size
  ·have hl : k < s.data.toList.length := by simpa using hlt
   have hsk : s.data.toList[k] = s[k] := rfl
   by_cases hc : s[k] = 45
   ·have HP := hid (hp'.out.hyphen hl (by rw [hsk]; exact hc))
    have hq : ((s[k].toNat : Int) == 45) = true := byte_eq hc
    clear hc hsk
    go_wp2_with (at_builtin; refine wpList_append_own _ rfl (.tmp 16) (.tmp 21) 190 rfl w.heap.size 9 i0 (.string ⟨#[]⟩) 1 16 Tryz.underlying190 hi hz0 hz1 hz2 rfl (by decide) _ _ _ rfl (hown.alloc _) ⟨wr.heap.size, 0, none⟩ 1 1 [.string (s.extract fn k)] rfl rfl ?c1 ?c2 ?c3 ?c4 ?c5 ?_)
    case c1 => exact cell_one _ _ _
    case c2 => intro u hu; simp at hu; subst hu; rfl
    case c3 => unfold maxLen; omega
    case c4 => omega
    case c5 => have := hb.size; simp; omega
    intro v' w1 hown1 hg1 _
    rw [extract_B] at hown1
    have hown2 : w1.ownsRow w.heap.size 9 1 v' (ps ++ [(s.data.toList.drop fn).take (k - fn)]).length ((ps ++ [(s.data.toList.drop fn).take (k - fn)]).map strV) := by simpa using hown1
    have hb1 : Below w.heap.size w w1 := (hb.alloc hb.size _).grown hg1 (by have := hb.size; simp; omega) (fun j hj => (hown.lt j hj).1)
    clear hown hown1 hg1 hb hp'
    go_wp2
    go_roundw
    case rel => exact ⟨k + 1, k + 1, _, by omega, by go_num, by go_num, HP.out, hown2, hb1⟩
    case measure => simp [intOf]; omega
   ·have HP := hid (hp'.out.other hl (by rw [hsk]; exact hc))
    have hq : ((s[k].toNat : Int) == 45) = false := byte_ne hc
    clear hc hsk
    go_wp2
    go_roundw
    case rel => exact ⟨k + 1, fn, ps, by omega, by go_num, rfl, HP.out, hown, hb⟩
    case measure => simp [intOf]; omega
  ·obtain rfl : k = s.size := by omega
   have hdone := (show PartsAt s.data.toList s.data.toList.length fn ps by simpa using hp'.out).done
   have Hd := hid hdone
   clear hdone
   go_wp2_with (at_builtin; refine wpList_append_own _ rfl (.tmp 25) (.tmp 29) 190 rfl w.heap.size 9 i0 (.string ⟨#[]⟩) 1 16 Tryz.underlying190 hi hz0 hz1 hz2 rfl (by decide) _ _ _ rfl (hown.alloc _) ⟨wr.heap.size, 0, none⟩ 1 1 [.string (s.extract fn s.size)] rfl rfl ?c1 ?c2 ?c3 ?c4 ?c5 ?_)
   case c1 => exact cell_one _ _ _
   case c2 => intro u hu; simp at hu; subst hu; rfl
   case c3 => unfold maxLen; omega
   case c4 => omega
   case c5 => have := hb.size; simp; omega
   intro v' w1 hown1 hg1 _
   rw [extract_B] at hown1
   have hown2 : w1.ownsRow w.heap.size 9 1 v' (partsOf s.data.toList).length ((partsOf s.data.toList).map strV) := by
    rw [Hd.out]
    rw [List.take_of_length_le (by simp)] at hown1
    simpa using hown1
   have hb1 : Below w.heap.size w w1 := (hb.alloc hb.size _).grown hg1 (by have := hb.size; simp; omega) (fun j hj => (hown.lt j hj).1)
   clear hown hown1 hg1 hb hp' Hd
   go_wp2
   go_ret
   exact ⟨_, rfl, hown2, hb1⟩
theorem refParts_l (l : List UInt8) (w : World) (hs : l.length <= 16777216) :
  Calls Tryz.prog 211 #[.string (B l)] w fun e w' => ∃ v, e = .returned v /\ w'.ownsRow w.heap.size 9 1 v (partsOf l).length ((partsOf l).map strV) /\ Below w.heap.size w w' := by
 have h := refParts_any (B l) w (by rw [B_size]; exact hs)
 rw [B_toList] at h
 exact h
end Go.Proofs.YtdhmpakhdhdebaaGreatDoor
namespace Go.Proofs.YtdhmpakhdhdebaaGreatDoor
open Go.Lib (hid)
open Go.RowKit
set_option maxRecDepth 100000
theorem strAt {w : World} {b o : Nat} {ls : List (List UInt8)} (h : At w (some ⟨b, o, none⟩) (ls.map strV)) {k : Nat} (hk : k < ls.length) : w.cell? ⟨b, o + k, none⟩ = some (.string (B ls[k])) := by
 have := h.get (j := k) (by simpa using hk)
 rw [this]
 simp [strV]
end Go.Proofs.YtdhmpakhdhdebaaGreatDoor
namespace Go.Proofs.YtdhmpakhdhdebaaGreatDoor
open Go.Lib (hid)
open Go.RowKit
set_option maxRecDepth 100000
theorem strCells_B (l : List UInt8) : Lib.strCells (B l) = l.map U8 := by simp [Lib.strCells, B, U8]
theorem joinD_take_one (ls : List (List UInt8)) (h : 0 < ls.length) : joinD (ls.take 1) = ls[0] := by
 match ls, h with
 | p :: r, _ => rfl
theorem joinD_take_succ (ls : List (List UInt8)) (k : Nat) (h : k < ls.length) (hk : 0 < k) : joinD (ls.take (k + 1)) = joinD (ls.take k) ++ 45 :: ls[k] := by
 rw [List.take_succ_eq_append_getElem h, joinD_snoc]
 intro e
 have h2 := congrArg List.length e
 rw [List.length_take, Nat.min_eq_left (by omega)] at h2
 simp at h2
 omega
theorem joinD_take_le (ls : List (List UInt8)) (k : Nat) (hk : k < ls.length) : (joinD (ls.take k)).length + 1 + ls[k].length <= (joinD ls).length + 1 /\ (0 < k -> (joinD (ls.take k)).length + 1 + ls[k].length <= (joinD ls).length) := by
 have mono : ∀ (a b : List (List UInt8)), (joinD a).length <= (joinD (a ++ b)).length := by
  intro a b
  induction b generalizing a with
  | nil => simp
  | cons x b ih =>
   have := ih (a ++ [x])
   rw [List.append_assoc] at this
   refine Nat.le_trans ?_ this
   by_cases ha : a = []
   ·subst ha; exact Nat.zero_le _
   ·rw [joinD_snoc _ _ ha]; simp
 have h2 := mono (ls.take (k + 1)) (ls.drop (k + 1))
 rw [List.take_append_drop] at h2
 by_cases h0 : k = 0
 ·subst h0
  rw [joinD_take_one ls hk] at h2
  simp [joinD]
  omega
 ·rw [joinD_take_succ ls k hk (by omega)] at h2
  simp at h2
  omega
set_option maxHeartbeats 800000 in
theorem refJoined_l (ls : List (List UInt8)) (a : Option Addr) (c : Nat) (w : World) (hn : ls.length <= 16777216) (hj : (joinD ls).length <= 16777216) (h1 : At w a (ls.map strV)) :
  Calls Tryz.prog 235 #[.slice a ls.length c] w fun e w' => e = .returned (.string (B (joinD ls))) /\ Below w.heap.size w w' := by
 obtain ⟨i0, hi, hz0, hz1, hz2⟩ := info_parts infoU8
 have H1 := hid h1
 clear h1
 go_enter Tryz.func235, Tryz.ntmps235
 go_wp2
 go_loopw [3, 4] (fun v i wr => ∃ k : Nat, k <= ls.length /\ i = .int .i64 k /\ wr.ownsRow w.heap.size 5 1 v (joinD (ls.take k)).length ((joinD (ls.take k)).map U8) /\ Below w.heap.size w wr) (fun _ i _ => ls.length - (intOf i).toNat)
 case atStart => exact ⟨0, Nat.zero_le _, rfl, World.ownsRow_nil _ _ _ _, Below.refl _ _⟩
 case round =>
  obtain ⟨k, hk, rfl, hown, hb⟩ := hrel
  by_cases hlt : k < ls.length
  ·obtain ⟨b1, o1, rfl⟩ := H1.out.place (by simp; omega)
   have hle := joinD_take_le ls k hlt
   have hcell : ∀ wx, Below w.heap.size w wx -> wx.cell? ⟨b1, o1 + k, none⟩ = some (.string (B ls[k])) := fun wx hx => strAt (H1.out.below hx) hlt
   by_cases hk0 : k = 0
   ·have hc := hcell wr hb
    have HE : Hid (joinD (ls.take (k + 1)) = ls[k]) := by subst hk0; exact joinD_take_one ls hlt
    have HZ : Hid (joinD (ls.take k) = []) := by subst hk0; rfl
    have hnk : ¬ (0 : Int) < (k : Int) := by omega
    clear hk0
    have HC := hid hcell
    clear hcell
    go_wp2_with (at_builtin; refine Lib.wpList_append_own_string _ rfl (.tmp 16) (.tmp 20) 35 9 rfl w.heap.size 5 i0 Tryz.underlying35 Tryz.underlying9 hi hz0 hz1 hz2 _ _ _ rfl hown (B ls[k]) rfl ?c1 ?c2 hb.size ?_)
    case c1 => unfold maxLen; omega
    case c2 => omega
    intro v' w1 hown1 hg1 _
    have hown2 : w1.ownsRow w.heap.size 5 1 v' (joinD (ls.take (k + 1))).length ((joinD (ls.take (k + 1))).map U8) := by
     simp only [strCells_B, HZ.out] at hown1
     rw [HE.out]
     simpa using hown1
    have hb1 : Below w.heap.size w w1 := hb.grown hg1 hb.size (fun j hj => (hown.lt j hj).1)
    clear hown hown1 hg1 hb hc
    go_wp2
    go_roundw
    case rel => exact ⟨k + 1, by omega, by go_num, hown2, hb1⟩
    case measure => simp [intOf]; omega
   ·have hk1 : 0 < k := by omega
    have HE := hid (joinD_take_succ ls k hlt hk1)
    have hle2 := hle.2 hk1
    have HC := hid hcell
    clear hcell hk0
    go_wp2_with (at_builtin; refine wpList_append_own _ rfl (.tmp 13) (.tmp 14) 35 rfl w.heap.size 5 i0 (.int .u8 0) 1 1 Tryz.underlying35 hi hz0 hz1 hz2 rfl (by decide) _ _ _ rfl (hown.alloc _) ⟨wr.heap.size, 0, none⟩ 1 1 [.int .u8 45] rfl rfl ?c1 ?c2 ?c3 ?c4 ?c5 ?_)
    case c1 => exact cell_one _ _ _
    case c2 => intro u hu; simp at hu; subst hu; rfl
    case c3 => unfold maxLen; omega
    case c4 => omega
    case c5 => have := hb.size; simp; omega
    intro v' w1 hown1 hg1 _
    have hb1 : Below w.heap.size w w1 := (hb.alloc hb.size _).grown hg1 (by have := hb.size; simp; omega) (fun j hj => (hown.lt j hj).1)
    have hc := HC.out w1 hb1
    clear hown hg1 hb
    go_wp2_with (at_builtin; refine Lib.wpList_append_own_string _ rfl (.tmp 16) (.tmp 20) 35 9 rfl w.heap.size 5 i0 Tryz.underlying35 Tryz.underlying9 hi hz0 hz1 hz2 _ _ _ rfl hown1 (B ls[k]) rfl ?d1 ?d2 hb1.size ?_)
    case d1 => have := B_size ls[k]; unfold maxLen; omega
    case d2 => have := B_size ls[k]; omega
    intro v2 w2 hown2 hg2 _
    have hown3 : w2.ownsRow w.heap.size 5 1 v2 (joinD (ls.take (k + 1))).length ((joinD (ls.take (k + 1))).map U8) := by
     simp only [strCells_B] at hown2
     rw [HE.out]
     have e : (joinD (ls.take k) ++ 45 :: ls[k]).length = (joinD (ls.take k)).length + 1 + ls[k].length := by simp; omega
     rw [e]
     simpa [U8] using hown2
    have hb2 : Below w.heap.size w w2 := hb1.grown hg2 hb1.size (fun j hj => (hown1.lt j hj).1)
    clear hown1 hown2 hg2 hb1 hc
    go_wp2
    go_roundw
    case rel => exact ⟨k + 1, by omega, by go_num, hown3, hb2⟩
    case measure => simp [intOf]; omega
  ·obtain rfl : k = ls.length := by omega
   rw [List.take_length] at hown
   have hback := bytes_back (P := Tryz.prog) (w := wr) 35 9 Tryz.underlying35 Tryz.underlying5 Tryz.underlying9 hown
   go_wp2
   go_ret
   exact ⟨rfl, hb⟩
end Go.Proofs.YtdhmpakhdhdebaaGreatDoor
