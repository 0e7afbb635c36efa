/-
  The example that awake reads and prints: plain words. No program in sight. By an AI agent.
-/
import Derived.Test.YtdegonmkikfghaaGreatDoorZSort0
import Derived.Test.YtdegonmkikfghaaGreatDoorZKeyQ
import Derived.Test.YtdegonmkikfghaaGreatDoorZValid
import Derived.WalkSpells
import Derived.Lib.SlBytesConst
import Derived.Test.YtdegonmkikfghaaGreatDoorZSeen
namespace Go.Proofs.YtdegonmkikfghaaGreatDoor
open Go.RowKit
set_option maxRecDepth 1000000
def awkIn : List UInt8 := [60, 97, 58, 62, 60, 112, 58, 62, 34, 120, 34, 64, 69, 78, 60, 103, 58, 62, 46, 35, 99, 10, 10]
def awkOut : List UInt8 := [60, 97, 58, 62, 32, 60, 112, 58, 62, 32, 34, 120, 34, 64, 101, 110, 32, 60, 103, 58, 62, 32, 46, 10]
def awkQ : QuadL := ⟨⟨1, [97, 58], [], []⟩, ⟨1, [112, 58], [], []⟩, ⟨3, [120], tagged, [101, 110]⟩, ⟨1, [103, 58], [], []⟩⟩
theorem awk_parse : parseF awkIn = .inl [awkQ] := by kernel_rfl
theorem awk_print : printN [awkQ] 100 = (awkOut, 0) := by kernel_rfl
end Go.Proofs.YtdegonmkikfghaaGreatDoor
namespace Go.Proofs.YtdegonmkikfghaaGreatDoor
open Go.RowKit
set_option maxRecDepth 1000000
theorem awk_short : ∀ q ∈ [awkQ], Short q := by
 intro q hq
 obtain rfl := List.mem_singleton.1 hq
 intro t ht
 rcases ht with rfl | rfl | rfl | rfl <;> (refine ⟨?_, ?_, ?_⟩ <;> decide)
theorem awk_lines : (linesL awkIn 0).length <= 1048576 := Nat.le_trans (linesL_len awkIn awkIn.length 0 (by decide)) (by decide)
theorem QFresh.one {b : Nat} {v : Value} {q : QuadL} {w : World} (h : QFresh b v [q] w) : ∃ g, v = .slice (some ⟨g, 0, none⟩) 1 1 /\ QHold w g [q] := by
 rcases h with ⟨h, _⟩ | ⟨g, _, _, h1, h2⟩
 · cases h
 · exact ⟨g, h1, h2⟩
theorem at_mark (w : World) : At (w.alloc (.cells #[.int .u8 60, .int .u8 97, .int .u8 58, .int .u8 62, .int .u8 60, .int .u8 112, .int .u8 58, .int .u8 62, .int .u8 34, .int .u8 120, .int .u8 34, .int .u8 64, .int .u8 69, .int .u8 78, .int .u8 60, .int .u8 103, .int .u8 58, .int .u8 62, .int .u8 46, .int .u8 35, .int .u8 99, .int .u8 10, .int .u8 10] 5 (23, 24))) (some ⟨w.heap.size, 0, none⟩) (awkIn.map U8) := fun j hj => by
 refine ⟨w.heap.size, 0, rfl, ?_⟩
 rw [Nat.zero_add, World.cell?_alloc_mark]
 show (awkIn.map U8).toArray[j]? = _
 have h1 : j < awkIn.length := by simpa using hj
 simp [h1]
set_option maxHeartbeats 4000000 in
theorem awake_l (w : World) (hT : TabAt w) (hM : MaxAt w) (hU : UtAt w) (hE : ErrType w) :
   Calls Tryz.prog 29 #[] w fun e w' => e = .returned (.bool true) /\ Below w.heap.size w w' := by
 have hA : Below w.heap.size w (w.alloc (.cells #[.int .u8 60, .int .u8 97, .int .u8 58, .int .u8 62, .int .u8 60, .int .u8 112, .int .u8 58, .int .u8 62, .int .u8 34, .int .u8 120, .int .u8 34, .int .u8 64, .int .u8 69, .int .u8 78, .int .u8 60, .int .u8 103, .int .u8 58, .int .u8 62, .int .u8 46, .int .u8 35, .int .u8 99, .int .u8 10, .int .u8 10] 5 (23, 24))) := (Below.refl _ _).alloc (Nat.le_refl _) _
 have PA0 := nqParse_l awkIn (some ⟨w.heap.size, 0, none⟩) 23 (w.alloc (.cells #[.int .u8 60, .int .u8 97, .int .u8 58, .int .u8 62, .int .u8 60, .int .u8 112, .int .u8 58, .int .u8 62, .int .u8 34, .int .u8 120, .int .u8 34, .int .u8 64, .int .u8 69, .int .u8 78, .int .u8 60, .int .u8 103, .int .u8 58, .int .u8 62, .int .u8 46, .int .u8 35, .int .u8 99, .int .u8 10, .int .u8 10] 5 (23, 24))) (at_mark w) (by decide) (by decide) awk_lines (hT.below hA) (hM.below hA) (hU.below hA) (hE.below hA)
 rw [awk_parse] at PA0
 have PA : Hid (Calls Tryz.prog 25 #[.slice (some ⟨w.heap.size, 0, none⟩) 23 23] (w.alloc (.cells #[.int .u8 60, .int .u8 97, .int .u8 58, .int .u8 62, .int .u8 60, .int .u8 112, .int .u8 58, .int .u8 62, .int .u8 34, .int .u8 120, .int .u8 34, .int .u8 64, .int .u8 69, .int .u8 78, .int .u8 60, .int .u8 103, .int .u8 58, .int .u8 62, .int .u8 46, .int .u8 35, .int .u8 99, .int .u8 10, .int .u8 10] 5 (23, 24))) fun e w' => ParsePost (w.alloc (.cells #[.int .u8 60, .int .u8 97, .int .u8 58, .int .u8 62, .int .u8 60, .int .u8 112, .int .u8 58, .int .u8 62, .int .u8 34, .int .u8 120, .int .u8 34, .int .u8 64, .int .u8 69, .int .u8 78, .int .u8 60, .int .u8 103, .int .u8 58, .int .u8 62, .int .u8 46, .int .u8 35, .int .u8 99, .int .u8 10, .int .u8 10] 5 (23, 24))).heap.size w' e (.inl [awkQ]) /\ Below (w.alloc (.cells #[.int .u8 60, .int .u8 97, .int .u8 58, .int .u8 62, .int .u8 60, .int .u8 112, .int .u8 58, .int .u8 62, .int .u8 34, .int .u8 120, .int .u8 34, .int .u8 64, .int .u8 69, .int .u8 78, .int .u8 60, .int .u8 103, .int .u8 58, .int .u8 62, .int .u8 46, .int .u8 35, .int .u8 99, .int .u8 10, .int .u8 10] 5 (23, 24))).heap.size (w.alloc (.cells #[.int .u8 60, .int .u8 97, .int .u8 58, .int .u8 62, .int .u8 60, .int .u8 112, .int .u8 58, .int .u8 62, .int .u8 34, .int .u8 120, .int .u8 34, .int .u8 64, .int .u8 69, .int .u8 78, .int .u8 60, .int .u8 103, .int .u8 58, .int .u8 62, .int .u8 46, .int .u8 35, .int .u8 99, .int .u8 10, .int .u8 10] 5 (23, 24))) w') := Lib.hid PA0
 have HA := Lib.hid hA
 have PR : Hid (∀ (g : Nat) (u : World), Below w.heap.size w u -> QAt u (some ⟨g, 0, none⟩) [awkQ] -> Calls Tryz.prog 13 #[.slice (some ⟨g, 0, none⟩) 1 1, .int .i64 100] u fun e w' => PrintPost u w' e (awkOut, 0)) := Lib.hid (fun g u hb hq => by
   have h := nqPrint_l [awkQ] (some ⟨g, 0, none⟩) 1 100 u (hT.below hb) (hM.below hb) awk_short (by decide) hq
   rw [awk_print] at h
   exact h)
 have BK := Lib.hid (fun (b : Nat) (v : Value) (u : World) (h : BOwn b v awkOut u) => h.back)
 have CV : (convert 25 25 (.slice (some ⟨w.heap.size, 0, none⟩) 23 23)).run Tryz.prog (w.alloc (.cells #[.int .u8 60, .int .u8 97, .int .u8 58, .int .u8 62, .int .u8 60, .int .u8 112, .int .u8 58, .int .u8 62, .int .u8 34, .int .u8 120, .int .u8 34, .int .u8 64, .int .u8 69, .int .u8 78, .int .u8 60, .int .u8 103, .int .u8 58, .int .u8 62, .int .u8 46, .int .u8 35, .int .u8 99, .int .u8 10, .int .u8 10] 5)) = .ok (.slice (some ⟨w.heap.size, 0, none⟩) 23 23) (w.alloc (.cells #[.int .u8 60, .int .u8 97, .int .u8 58, .int .u8 62, .int .u8 60, .int .u8 112, .int .u8 58, .int .u8 62, .int .u8 34, .int .u8 120, .int .u8 34, .int .u8 64, .int .u8 69, .int .u8 78, .int .u8 60, .int .u8 103, .int .u8 58, .int .u8 62, .int .u8 46, .int .u8 35, .int .u8 99, .int .u8 10, .int .u8 10] 5 (23, 24))) := Lib.run_convert_bytes_const w 25 5 #[.int .u8 60, .int .u8 97, .int .u8 58, .int .u8 62, .int .u8 60, .int .u8 112, .int .u8 58, .int .u8 62, .int .u8 34, .int .u8 120, .int .u8 34, .int .u8 64, .int .u8 69, .int .u8 78, .int .u8 60, .int .u8 103, .int .u8 58, .int .u8 62, .int .u8 46, .int .u8 35, .int .u8 99, .int .u8 10, .int .u8 10] 23 23 Tryz.underlying25 Tryz.underlying5
 clear PA0 hA hT hM hU hE
 go_enter Tryz.func29, Tryz.ntmps29
 go_wp2_with (first
   | (go_at_call 25; (with_reducible refine PA.out.mono ?_); rintro e w3 ⟨⟨v, rfl, hF⟩, hb3⟩; obtain ⟨g, rfl, hH⟩ := hF.one; have HB3 := Lib.hid (HA.out.trans (hb3.mono HA.out.size)); have HQ3 := Lib.hid hH.at; clear hb3 hH)
   | (go_at_call 13; (with_reducible refine (PR.out _ _ HB3.out HQ3.out).mono ?_); rintro e w4 ⟨v4, rfl, ho, hb4⟩; have HB4 := Lib.hid (HB3.out.trans (hb4.mono HB3.out.size)); obtain ⟨a4, c4, rfl⟩ := ho.slice; have bk := BK.out _ _ _ ho; clear ho hb4))
 go_ret
 exact ⟨rfl, HB4.out⟩
end Go.Proofs.YtdegonmkikfghaaGreatDoor
namespace Go.Proofs.YtdegonmkikfghaaGreatDoor
open Go.RowKit
set_option maxRecDepth 100000
def backF (l : List UInt8) : Nat -> Nat
 | 0 => 0
 | k + 1 => if eolC (l.getD k 0) = true then k + 1 else backF l k
theorem backF_le (l : List UInt8) : ∀ k, backF l k <= k
 | 0 => Nat.le_refl _
 | k + 1 => by
   unfold backF
   split
   · exact Nat.le_refl _
   · have := backF_le l k; omega
theorem backF_at (l : List UInt8) (s : Nat) (hs : s = 0 \/ (0 < s /\ eolC (l.getD (s - 1) 0) = true)) : ∀ k, s <= k -> (∀ j, s <= j -> j < k -> eolC (l.getD j 0) = false) -> backF l k = s
 | 0, h, _ => by
   obtain rfl : s = 0 := by omega
   rfl
 | k + 1, h, hf => by
   by_cases he : s = k + 1
   · subst he
     rcases hs with h0 | ⟨_, h1⟩
     · cases h0
     · rw [Nat.add_sub_cancel] at h1
       unfold backF
       rw [if_pos h1]
   · unfold backF
     rw [if_neg (by rw [hf k (by omega) (by omega)]; simp)]
     exact backF_at l s hs k (by omega) (fun j h1 h2 => hf j h1 (by omega))
theorem parse_first {l : List UInt8} {p : Nat} {e : Int} (h : parseF l = .inr (p, e)) : p <= l.length /\ e ≠ 0 /\ ∃ a, parseF (l.take (backF l p)) = .inl a := by
 have h2 : (eachF l 0).2 = some (p, e) := by
   unfold parseF at h
   split at h
   · next f hf => cases h; exact hf
   · cases h
 obtain ⟨s, _, s2, s3, s4, s5, s6, s7⟩ := each_first l l.length 0 p e (by omega) (Nat.zero_le _) h2
 have hb := eolF_bound l l.length s (by omega) (by omega)
 have he := (eolF_eol l l.length s (by omega) (by omega)).1
 refine ⟨by omega, s7, ?_⟩
 rw [backF_at l s s5 p s2 (fun j h1 h2 => he j h1 (by omega))]
 unfold parseF
 rw [s6]
 exact ⟨_, rfl⟩
end Go.Proofs.YtdegonmkikfghaaGreatDoor
namespace Go.Proofs.YtdegonmkikfghaaGreatDoor
open Go.RowKit
set_option maxRecDepth 1000000
theorem conv_bytes (m : List UInt8) (u : World) : ∃ cap C, m.length <= cap /\ (convert 9 25 (.string (B m))).run Tryz.prog u = .ok (.slice (some ⟨u.heap.size, 0, none⟩) m.length cap) (u.drew.alloc (.cells C 5 (C.size, C.size + 1))) /\ RowAt (u.alloc (.cells C 5 (C.size, C.size + 1))) u.heap.size (m.map U8) := by
 have h := run_bytes_of_string (P := Tryz.prog) u 9 25 5 (B m) Tryz.underlying9 Tryz.underlying25 Tryz.underlying5
 have hr := rowAt_bytes u (B m) (grownCap u (B m).size 0 5) 5
 have hc := grownCap_ge u (B m).size 0 5
 rw [B_size] at h hr hc
 rw [B_toList] at hr
 exact ⟨_, _, hc, h, hr⟩
theorem lines_few (l : List UInt8) (h : l.length <= 1048576) : (linesL l 0).length <= 1048576 := Nat.le_trans (linesL_len l l.length 0 (by omega)) (by omega)
theorem parse_new (l : List UInt8) (w u : World) (cap : Nat) (C : Array Value) (hb : Below w.heap.size w u) (hl : l.length <= 1048576) (hc : l.length <= cap) (hr : RowAt (u.alloc (.cells C 5 (C.size, C.size + 1))) u.heap.size (l.map U8)) (hT : TabAt w) (hM : MaxAt w) (hU : UtAt w) (hE : ErrType w) :
   Calls Tryz.prog 25 #[.slice (some ⟨u.heap.size, 0, none⟩) l.length cap] ((u.alloc (.cells C 5 (C.size, C.size + 1))).drew) fun e w' => ParsePost u.heap.size w' e (parseF l) /\ Below w.heap.size w w' := by
 have hB : Below w.heap.size w ((u.alloc (.cells C 5 (C.size, C.size + 1))).drew) := (hb.alloc hb.size _).drew
 refine (nqParse_l l (some ⟨u.heap.size, 0, none⟩) cap ((u.alloc (.cells C 5 (C.size, C.size + 1))).drew) (show At ((u.alloc (.cells C 5 (C.size, C.size + 1))).drew) _ _ from hr.at) hc (by omega) (lines_few l hl) (hT.below hB) (hM.below hB) (hU.below hB) (hE.below hB)).mono ?_
 rintro e w' ⟨h1, h2⟩
 refine ⟨?_, hB.trans (h2.mono hB.size)⟩
 obtain ⟨y, hy⟩ : ∃ y, parseF l = y := ⟨_, rfl⟩
 rw [hy] at h1 ⊢
 rcases y with s | f
 · obtain ⟨v, h3, h4⟩ := h1
   exact ⟨v, h3, h4.keep (by simp) (Nat.le_refl _) (fun _ _ _ => rfl)⟩
 · exact h1
set_option maxHeartbeats 4000000 in
theorem first_ok (l : List UInt8) (s : List QuadL) (w : World) (hT : TabAt w) (hM : MaxAt w) (hU : UtAt w) (hE : ErrType w) (hl : l.length <= 1048576) (hp : parseF l = .inl s) :
   Calls Tryz.prog 9 #[.string (B l)] w fun e w' => e = .returned (.bool true) /\ Below w.heap.size w w' := by
 have AW := Lib.hid (awake_l w hT hM hU hE)
 have PN := Lib.hid (fun (u : World) (cap : Nat) (C : Array Value) (hb : Below w.heap.size w u) (hc : l.length <= cap) (hr : RowAt (u.alloc (.cells C 5 (C.size, C.size + 1))) u.heap.size (l.map U8)) => parse_new l w u cap C hb hl hc hr hT hM hU hE)
 have CB := Lib.hid (conv_bytes l)
 rw [hp] at PN
 clear hT hM hU hE hp
 go_enter Tryz.func9, Tryz.ntmps9
 go_wp2_with (first
   | (go_at_call 29; (with_reducible refine AW.out.mono ?_); rintro e w2 ⟨rfl, hb2⟩; have HB2 := Lib.hid hb2; obtain ⟨cap, C, hc, hcv, hr⟩ := CB.out w2; have HC := Lib.hid hc; have HR := Lib.hid hr; clear hb2 hc hr)
   | (go_at_call 25; (with_reducible refine (PN.out _ _ _ HB2.out HC.out HR.out).mono ?_); rintro e w3 ⟨⟨v, rfl, hF⟩, hb3⟩; have HB3 := Lib.hid hb3; clear hF hb3))
 go_ret
 exact ⟨rfl, HB3.out⟩
set_option maxHeartbeats 4000000 in
theorem first_bad (l : List UInt8) (p : Nat) (c : Int) (w : World) (hT : TabAt w) (hM : MaxAt w) (hU : UtAt w) (hE : ErrType w) (hl : l.length <= 1048576) (hp : parseF l = .inr (p, c)) :
   Calls Tryz.prog 9 #[.string (B l)] w fun e w' => e = .returned (.bool true) /\ Below w.heap.size w w' := by
 obtain ⟨hpl, hc0, sQ, hs⟩ := parse_first hp
 have AW := Lib.hid (awake_l w hT hM hU hE)
 have PN := Lib.hid (fun (u : World) (cap : Nat) (C : Array Value) (hb : Below w.heap.size w u) (hc : l.length <= cap) (hr : RowAt (u.alloc (.cells C 5 (C.size, C.size + 1))) u.heap.size (l.map U8)) => parse_new l w u cap C hb hl hc hr hT hM hU hE)
 have CB := Lib.hid (conv_bytes l)
 obtain ⟨s, hsb⟩ : ∃ s, backF l p = s := ⟨_, rfl⟩
 have hsp := backF_le l p
 rw [hsb] at hs hsp
 have hls : (l.take s).length = s := by simp; omega
 have PN2 : Hid (∀ (u : World) (cap : Nat) (C : Array Value), Below w.heap.size w u -> s <= cap -> RowAt (u.alloc (.cells C 5 (C.size, C.size + 1))) u.heap.size ((l.take s).map U8) -> Calls Tryz.prog 25 #[.slice (some ⟨u.heap.size, 0, none⟩) s cap] ((u.alloc (.cells C 5 (C.size, C.size + 1))).drew) fun e w' => ParsePost u.heap.size w' e (parseF (l.take s)) /\ Below w.heap.size w w') := Lib.hid (fun u cap C hb hc hr => by
   have h := parse_new (l.take s) w u cap C hb (by omega) (by omega) hr hT hM hU hE
   rw [hls] at h
   exact h)
 have CB2 : Hid (∀ u : World, ∃ cap C, s <= cap /\ (convert 9 25 (.string (B (l.take s)))).run Tryz.prog u = .ok (.slice (some ⟨u.heap.size, 0, none⟩) s cap) (u.drew.alloc (.cells C 5 (C.size, C.size + 1))) /\ RowAt (u.alloc (.cells C 5 (C.size, C.size + 1))) u.heap.size ((l.take s).map U8)) := Lib.hid (fun u => by
   have h := conv_bytes (l.take s) u
   rw [hls] at h
   exact h)
 rw [hp] at PN
 rw [hs] at PN2
 have HSB := Lib.hid hsb
 have SN := Lib.hid (fun (v : Value) (u : World) (h : ErrIs u v (.inr (p, c))) => seen_err v p c u h)
 have p1 : ((p : Int) == -1) = false := beq_eq_false_iff_ne.2 (by omega)
 have p2 : decide ((p : Int) < 0) = false := decide_eq_false (by omega)
 have p3 : decide ((l.length : Int) < (p : Int)) = false := decide_eq_false (by omega)
 have p3n : decide (l.length < p) = false := decide_eq_false (by omega)
 have p4 : (c == 0) = false := beq_eq_false_iff_ne.2 hc0
 clear hT hM hU hE hp hs hsb hc0
 go_enter Tryz.func9, Tryz.ntmps9
 go_wp2_with (first
   | (go_at_call 29; (with_reducible refine AW.out.mono ?_); rintro e w2 ⟨rfl, hb2⟩; have HB2 := Lib.hid hb2; obtain ⟨cap, C, hc, hcv, hr⟩ := CB.out w2; have HC := Lib.hid hc; have HR := Lib.hid hr; clear hb2 hc hr)
   | (go_at_call 25; (with_reducible refine (PN.out _ _ _ HB2.out HC.out HR.out).mono ?_); rintro e w3 ⟨⟨v, rfl, hF⟩, hb3⟩; have hv := hF; obtain ⟨eb, rfl, _, _⟩ := hv; have HF := Lib.hid hF; have HB3 := Lib.hid hb3; clear hF hb3)
   | (go_at_call 20; (with_reducible refine (SN.out _ _ HF.out).mono ?_); rintro e w4 ⟨rfl, hb4⟩; have HB4 := Lib.hid (HB3.out.trans (hb4.mono HB3.out.size)); clear hb4))
 go_loopw [6] (fun i wr => ∃ k : Nat, i = .int .i64 (k : Int) /\ k <= p /\ Hid (backF l k = s) /\ Below w.heap.size w wr) (fun i _ => (intOf i).toNat)
 case atStart => exact ⟨p, rfl, Nat.le_refl _, HSB, by first | exact HB4.out | exact HB4.out.alloc HB4.out.size _⟩
 case round =>
   obtain ⟨k, rfl, hk, HK, hb⟩ := hrel
   by_cases hk0 : k = 0
   · have hbk : backF l k = s := HK.out
     obtain rfl : s = k := by rw [<- hbk, hk0]; rfl
     have g1 : decide ((0 : Int) < (s : Int)) = false := decide_eq_false (by omega)
     have g2 : decide (0 < s) = false := decide_eq_false (by omega)
     have hml : (s : Int) <= (l.length : Int) := by omega
     have hml2 : s <= l.length := by omega
     clear hbk hk0
     have HBr := Lib.hid hb
     obtain ⟨cap2, C2, hc2, hcv2, hr2⟩ := CB2.out wr
     have HC2 := Lib.hid hc2
     have HR2 := Lib.hid hr2
     clear hc2 hr2 hb HK PN SN CB AW HSB
     go_wp2_with (go_at_call 25; (with_reducible refine (PN2.out _ _ _ HBr.out HC2.out HR2.out).mono ?_); rintro e w7 ⟨⟨v, rfl, hF⟩, hb7⟩; have HB7 := Lib.hid hb7; clear hF hb7)
     go_ret
     exact ⟨rfl, HB7.out⟩
   · obtain ⟨m, rfl⟩ : ∃ m, k = m + 1 := ⟨k - 1, by omega⟩
     have hm : m < l.length := by omega
     have g1 : decide ((0 : Int) < (m : Int) + 1) = true := decide_eq_true (by omega)
     have m0 : 0 <= (m : Int) := by omega
     have m1 : (m : Int) < (l.length : Int) := by omega
     have W1 : IntKind.i64.wrap (m : Int) = (m : Int) := IntWalk.i64_in _ (by omega)
     have hgm : l.getD m 0 = l[m] := by simp [List.getD, hm]
     have hml : (m : Int) + 1 <= (l.length : Int) := by omega
     have hml2 : m + 1 <= l.length := by omega
     by_cases h10 : l[m] = 10
     · have e1 : ((l[m].toNat : Int) != 10) = false := byte_eqi (d := 10) h10
       obtain rfl : m + 1 = s := by
         rw [<- HK.out]; unfold backF
         rw [hgm, h10, if_pos (by decide)]
       clear h10 hgm
       have HBr := Lib.hid hb
       obtain ⟨cap2, C2, hc2, hcv2, hr2⟩ := CB2.out wr
       have HC2 := Lib.hid hc2
       have HR2 := Lib.hid hr2
       clear hc2 hr2 hb HK PN SN CB AW HSB
       go_wp2_with (go_at_call 25; (with_reducible refine (PN2.out _ _ _ HBr.out HC2.out HR2.out).mono ?_); rintro e w7 ⟨⟨v, rfl, hF⟩, hb7⟩; have HB7 := Lib.hid hb7; clear hF hb7)
       go_ret
       exact ⟨rfl, HB7.out⟩
     have e1 : ((l[m].toNat : Int) != 10) = true := byte_nei (d := 10) h10
     by_cases h13 : l[m] = 13
     · have e2 : ((l[m].toNat : Int) != 13) = false := byte_eqi (d := 13) h13
       obtain rfl : m + 1 = s := by
         rw [<- HK.out]; unfold backF
         rw [hgm, h13, if_pos (by decide)]
       clear h10 h13 hgm
       have HBr := Lib.hid hb
       obtain ⟨cap2, C2, hc2, hcv2, hr2⟩ := CB2.out wr
       have HC2 := Lib.hid hc2
       have HR2 := Lib.hid hr2
       clear hc2 hr2 hb HK PN SN CB AW HSB
       go_wp2_with (go_at_call 25; (with_reducible refine (PN2.out _ _ _ HBr.out HC2.out HR2.out).mono ?_); rintro e w7 ⟨⟨v, rfl, hF⟩, hb7⟩; have HB7 := Lib.hid hb7; clear hF hb7)
       go_ret
       exact ⟨rfl, HB7.out⟩
     have e2 : ((l[m].toNat : Int) != 13) = true := byte_nei (d := 13) h13
     have HK2 : Hid (backF l m = s) := Lib.hid (by
       rw [<- HK.out]
       conv => rhs; unfold backF
       rw [hgm, if_neg (by simp [eolC, h10, h13])])
     have HBr := Lib.hid hb
     clear h10 h13 hgm HK hb
     go_wp2_with fail
     go_roundw
     case rel => exact ⟨m, by go_num, by omega, HK2, HBr.out⟩
     case measure => simp [intOf]
theorem first_walk (l : List UInt8) (w : World) (hT : TabAt w) (hM : MaxAt w) (hU : UtAt w) (hE : ErrType w) (hl : l.length <= 1048576) :
   Calls Tryz.prog 9 #[.string (B l)] w fun e w' => e = .returned (.bool true) /\ Below w.heap.size w w' := by
 obtain ⟨y, hy⟩ : ∃ y, parseF l = y := ⟨_, rfl⟩
 rcases y with s | ⟨p, c⟩
 · exact first_ok l s w hT hM hU hE hl hy
 · exact first_bad l p c w hT hM hU hE hl hy
end Go.Proofs.YtdegonmkikfghaaGreatDoor
