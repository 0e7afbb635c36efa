/-
  names.Lower and the reference's Lower: letters A to Z become small, all else stays. Contracts of both over every text. By an AI agent.
-/
import Derived.Test.YtdhmpakhdhdebaaGreatDoorZGPlain
import Derived.Test.YtdhmpakhdhdebaaGreatDoorProg
import Derived.Outline
import Derived.Lib.AppendStr
import Derived.Lib.Strings
namespace Go.Proofs.YtdhmpakhdhdebaaGreatDoor
open Go.RowKit
set_option maxRecDepth 100000
set_option maxHeartbeats 400000 in
theorem lower_any (s : ByteArray) (w : World) (hs : s.size <= maxLen) :
   Calls Tryz.prog 101 #[.string s] w fun e w' => e = .returned (.string (B (lowL s.data.toList))) /\ Below w.heap.size w w' := by
 unfold maxLen at hs
 have hconv := run_bytes_of_string (P := Tryz.prog) w 9 35 5 s Tryz.underlying9 Tryz.underlying35 Tryz.underlying5
 obtain ⟨cap, hcap⟩ : ∃ cap, grownCap w s.size 0 5 = cap := ⟨_, rfl⟩
 rw [hcap] at hconv
 clear hcap
 have hrow := rowAt_bytes w s cap 5
 obtain ⟨C, hC⟩ : ∃ C, bytesRow s cap = C := ⟨_, rfl⟩
 rw [hC] at hconv hrow
 clear hC
 go_enter Tryz.func101, Tryz.ntmps101
 go_wp2
 go_loopw [10] (fun i wr => ∃ k : Nat, k <= s.size /\ i = .int .i64 k /\ Below w.heap.size w wr /\ RowAt wr w.heap.size ((lowTo k s.data.toList).map U8)) (fun i _ => s.size - (intOf i).toNat)
 case atStart => exact ⟨0, Nat.zero_le _, rfl, ((Below.refl _ _).alloc (Nat.le_refl _) _).drew, by rw [lowTo_zero]; exact hrow⟩
 case round =>
   obtain ⟨k, hk, rfl, hb, hr⟩ := hrel
   by_cases hlt : k < s.size
   · have hl : k < s.data.toList.length := by simpa using hlt
     have hlm : k < ((lowTo k s.data.toList).map U8).length := by rw [List.length_map, lowTo_length]; exact hl
     have hcell := hr.cell hlm
     have hfree := hr.free hlm
     rw [u8_map _ _ (by rw [lowTo_length]; exact hl), lowTo_at _ _ hl] at hcell
     have HS : Hid ((lowTo k s.data.toList).set k (lowB s.data.toList[k]) = lowTo (k + 1) s.data.toList) := lowTo_set _ _ hl
     obtain ⟨c, hc⟩ : ∃ c, s.data.toList[k] = c := ⟨_, rfl⟩
     rw [hc] at hcell HS
     have HC := Lib.hid hc
     clear hc
     go_wp2
     · refine ⟨⟨k + 1, by omega, by go_num, hb.setCell (Nat.le_refl _) _, low_store hr hl HS.out ‹_› ‹_›⟩, by simp [intOf]; omega⟩
     · refine ⟨⟨k + 1, by omega, by go_num, hb, low_keep hr hl HC.out (.inr (by omega))⟩, by simp [intOf]; omega⟩
     · refine ⟨⟨k + 1, by omega, by go_num, hb, low_keep hr hl HC.out (.inl (by omega))⟩, by simp [intOf]; omega⟩
   · obtain rfl : k = s.size := by omega
     have hall : lowTo s.size s.data.toList = lowL s.data.toList := lowTo_all s.data.toList
     rw [hall] at hr
     clear hall
     have hback := back_of_row (P := Tryz.prog) wr 35 9 5 w.heap.size cap s.size (lowL s.data.toList) (by simp [lowL]) Tryz.underlying35 Tryz.underlying5 Tryz.underlying9 hr
     go_wp2
     go_ret
     exact ⟨rfl, hb⟩
theorem lower_l (l : List UInt8) (w : World) (hs : l.length <= maxLen) :
   Calls Tryz.prog 101 #[.string (B l)] w fun e w' => e = .returned (.string (B (lowL l))) /\ Below w.heap.size w w' := by
 have h := lower_any (B l) w (by rw [B_size]; exact hs)
 rw [B_toList] at h
 exact h
end Go.Proofs.YtdhmpakhdhdebaaGreatDoor
namespace Go.Proofs.YtdhmpakhdhdebaaGreatDoor
open Go.RowKit
set_option maxRecDepth 100000
theorem infoStr : (Tryz.prog.info? 9).map (fun i => (i.zero, i.size, i.bytes)) = some (some (.string ⟨#[]⟩), 1, 16) := by kernel_rfl
end Go.Proofs.YtdhmpakhdhdebaaGreatDoor
