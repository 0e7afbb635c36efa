/-
  tesseraref09.Text: a contract. By an AI agent.
-/
import Derived.Test.YtmnigckpejcaeaaGreatDoorZNqText
import Derived.Test.YtmnigckpejcaeaaGreatDoorZEscW
import Derived.Test.YtmnigckpejcaeaaGreatDoorZGSpell
import Derived.Test.YtmnigckpejcaeaaGreatDoorZGUtf
import Derived.BigQuiet
import Derived.WalkSmall
import Derived.Test.YtmnigckpejcaeaaGreatDoorZBuilder
import Derived.Test.YtmnigckpejcaeaaGreatDoorZEscBack0
import Derived.Test.YtmnigckpejcaeaaGreatDoorZTextW
import Derived.Test.YtmnigckpejcaeaaGreatDoorZTermD
import Derived.Test.YtmnigckpejcaeaaGreatDoorZRefQuadW
import Derived.Test.YtmnigckpejcaeaaGreatDoorZRdW1
import Derived.Test.YtmnigckpejcaeaaGreatDoorZUtfCheck
import Derived.Test.YtmnigckpejcaeaaGreatDoorZEsc0
import Derived.Test.YtmnigckpejcaeaaGreatDoorZGRef2
import Derived.Test.YtmnigckpejcaeaaGreatDoorZLower
import Derived.Deep.RegionLaw
import Derived.Deep.RegionHeld3
import Derived.Test.YtmnigckpejcaeaaGreatDoorZTagCells
import Derived.Deep.CutBlock
import Derived.Outline
import Derived.BigRegion
import Derived.Test.YtmnigckpejcaeaaGreatDoorZTerm0
import Derived.Laws.Cover1
import Derived.Test.YtmnigckpejcaeaaGreatDoorZLoadQ
import Derived.Test.YtmnigckpejcaeaaGreatDoorZQuad0
import Derived.WalkLawsBesides
import Derived.Test.YtmnigckpejcaeaaGreatDoorZApp
import Derived.Test.YtmnigckpejcaeaaGreatDoorZPatch0
import Derived.IntWalk
import Derived.Deep.QuietTactic
import Derived.Deep.Cut
import Derived.Test.YtmnigckpejcaeaaGreatDoorZSort0
namespace Go.Proofs.YtmnigckpejcaeaaGreatDoor
open Go.RowKit
set_option maxRecDepth 100000
theorem row_quad (w : World) (q : QuadL) (T : TypeId) : RowAt (w.alloc (.cells #[.int .i64 q.s.kind, .string (B q.s.text), .string (B q.s.type), .string (B q.s.lang), .int .i64 q.p.kind, .string (B q.p.text), .string (B q.p.type), .string (B q.p.lang), .int .i64 q.o.kind, .string (B q.o.text), .string (B q.o.type), .string (B q.o.lang), .int .i64 q.g.kind, .string (B q.g.text), .string (B q.g.type), .string (B q.g.lang)] T)) w.heap.size (quadC q) := rowAt_of_heap (L := quadC q) (t := T) (heap_alloc_new _ _)
end Go.Proofs.YtmnigckpejcaeaaGreatDoor
namespace Go.Proofs.YtmnigckpejcaeaaGreatDoor
open Go.RowKit
set_option maxRecDepth 100000
theorem RowAt.row {w : World} {g f : Nat} {vs : List Value} (h : RowAt w f vs) (hne : f ≠ g) (cs : Array Value) : RowAt (w.setRow g cs) f vs := fun j hj => by
 have e : (w.setRow g cs).heap[f]? = w.heap[f]? := setRow_other _ _ _ _ hne
 refine ⟨by rw [World.cell?_of_block e]; exact h.cell hj, ?_⟩
 have := h.free hj
 simp only [World.frozen?] at this ⊢
 rw [e]
 exact this
end Go.Proofs.YtmnigckpejcaeaaGreatDoor
namespace Go.Proofs.YtmnigckpejcaeaaGreatDoor
open Go.RowKit
set_option maxRecDepth 100000
theorem quadsC_take : ∀ (l : List QuadL) (k : Nat), quadsC (l.take k) = (quadsC l).take (k * 16)
 | [], k => by simp [quadsC]
 | q :: l, 0 => by simp [quadsC]
 | q :: l, k + 1 => by
   rw [List.take_succ_cons, quadsC_cons, quadsC_cons, quadsC_take l k, List.take_append, quadC_len, List.take_of_length_le (l := quadC q) (by rw [quadC_len]; omega), show (k + 1) * 16 - 16 = k * 16 by omega]
theorem QAt.take {w : World} {a : Option Addr} {l : List QuadL} (h : QAt w a l) (k : Nat) : QAt w a (l.take k) := by
 unfold QAt
 rw [quadsC_take]
 exact At.take h _
end Go.Proofs.YtmnigckpejcaeaaGreatDoor
namespace Go.Proofs.YtmnigckpejcaeaaGreatDoor
open Go.RowKit
set_option maxRecDepth 100000
set_option maxHeartbeats 12000000 in
theorem heavy_l (l : List QuadL) (v : Value) (w : World) (hV : QView w v l) (hS : ∀ q ∈ l, Short q) (hl : l.length <= 1048576) :
   Calls Tryz.prog 5 #[v] w fun e w' => (∃ b, e = .returned (.bool b)) /\ Below w.heap.size w w' := by
 obtain ⟨a, c, rfl, _, hQ⟩ := hV
 have HQ := Lib.hid hQ
 have HS := Lib.hid hS
 have BW : Hid (Below w.heap.size w w) := Lib.hid (Below.refl _ _)
 clear hQ hS
 go_enter Tryz.func5, Tryz.ntmps5
 go_wp2_with fail
 go_loopw [3, 4] (fun n i wr => ∃ (k m : Nat), i = .int .i64 k /\ k <= l.length /\ n = .int .i64 m /\ m <= 100000000 /\ Hid (Below w.heap.size w wr)) (fun _ i _ => l.length - (intOf i).toNat)
 case atStart => exact ⟨0, 0, rfl, Nat.zero_le _, rfl, by omega, BW⟩
 case round =>
   obtain ⟨k, m, rfl, hk, rfl, hm, HB⟩ := hrel
   clear BW
   by_cases hlt : k < l.length
   · have q10 : decide ((k : Int) < (l.length : Int)) = true := decide_eq_true (by omega)
     by_cases hm2 : m <= 67108864
     · have q13 : decide ((m : Int) <= 67108864) = true := decide_eq_true (by omega)
       obtain ⟨b, o, rfl⟩ := HQ.out.place (by omega)
       have hmem := List.getElem_mem hlt
       obtain ⟨x, hx⟩ : ∃ x, l[k] = x := ⟨_, rfl⟩
       have hr := (HQ.out.below HB.out).get hlt
       rw [hx] at hr hmem
       obtain ⟨c0, c1, c2, c3, c4, c5, c6, c7, c8, c9, c10, c11, c12, c13, c14, c15⟩ := cells16 hr
       have hbs := World.block_lt_of_cell? _ _ c0
       have SH := Lib.hid (HS.out x hmem)
       have RN := Lib.hid (fun (u : World) => row_quad u x 57)
       have k0 : 0 <= (k : Int) := by omega
       have k1 : (k : Int) < (l.length : Int) := by omega
       clear hx hmem hr
       obtain ⟨W0, rfl⟩ : ∃ W0 : World, W0 = wr := ⟨_, rfl⟩
       go_wp2_with fail
       go_region
       have HR0 : Hid (RowAt (W0.alloc (.cells #[.int .i64 x.s.kind, .string (B x.s.text), .string (B x.s.type), .string (B x.s.lang), .int .i64 x.p.kind, .string (B x.p.text), .string (B x.p.type), .string (B x.p.lang), .int .i64 x.o.kind, .string (B x.o.text), .string (B x.o.type), .string (B x.o.lang), .int .i64 x.g.kind, .string (B x.g.text), .string (B x.g.type), .string (B x.g.lang)] 57)).drew W0.heap.size (quadC x)) := Lib.hid (RN.out W0)
       have HB0 : Hid (Below w.heap.size w (W0.alloc (.cells #[.int .i64 x.s.kind, .string (B x.s.text), .string (B x.s.type), .string (B x.s.lang), .int .i64 x.p.kind, .string (B x.p.text), .string (B x.p.type), .string (B x.p.lang), .int .i64 x.o.kind, .string (B x.o.text), .string (B x.o.type), .string (B x.o.lang), .int .i64 x.g.kind, .string (B x.g.text), .string (B x.g.type), .string (B x.g.lang)] 57)).drew) := Lib.hid ((HB.out.alloc HB.out.size _).drew)
       clear c0 c1 c2 c3 c4 c5 c6 c7 c8 c9 c10 c11 c12 c13 c14 c15 RN
       go_wp2_with fail
       go_loopw [3, 6] (fun n j wr => ∃ (kk mm : Nat) (z : Int), z = kk /\ j = .int .i64 z /\ kk <= 4 /\ n = .int .i64 mm /\ mm <= 67108864 + kk * 3145748 /\ Hid (RowAt wr W0.heap.size (quadC x)) /\ Hid (Below w.heap.size w wr)) (fun _ j _ => 4 - (intOf j).toNat)
       case atStart => exact ⟨0, m, 0, rfl, rfl, by omega, rfl, by omega, HR0, HB0⟩
       case round =>
         obtain ⟨kk, mm, z, hz, rfl, hkk, rfl, hmm, HR, HB2⟩ := hrel
         clear HR0 HB0
         have ck : kk = 0 \/ kk = 1 \/ kk = 2 \/ kk = 3 \/ kk = 4 := by omega
         rcases ck with rfl | rfl | rfl | rfl | rfl
         · obtain rfl : z = 0 := by simpa using hz
           have x1 : wr.cell? ⟨W0.heap.size, 1, none⟩ = some (.string (B x.s.text)) := HR.out.cell (j := 1) (by simp [quadC, termC])
           have x2 : wr.cell? ⟨W0.heap.size, 2, none⟩ = some (.string (B x.s.type)) := HR.out.cell (j := 2) (by simp [quadC, termC])
           have x3 : wr.cell? ⟨W0.heap.size, 3, none⟩ = some (.string (B x.s.lang)) := HR.out.cell (j := 3) (by simp [quadC, termC])
           have xb := World.block_lt_of_cell? _ _ x1
           obtain ⟨s1, s2, s3⟩ := SH.out x.s (.inl rfl)
           have HRD : Hid (∀ n, RowAt (wr.drewN n) W0.heap.size (quadC x)) := Lib.hid (fun n => HR.out)
           clear hz
           go_wp2_with fail
           go_quiet (fail)
           go_wp2_with fail
           go_roundw
           case rel => exact ⟨1, mm + (20 + x.s.text.length + x.s.type.length + x.s.lang.length), 1, rfl, by go_num, by omega, by go_num, by omega, Lib.hid (HRD.out _), Lib.hid (HB2.out.trans ((below_drewN _ _).mono HB2.out.size))⟩
           case measure => simp [intOf]
         · obtain rfl : z = 1 := by simpa using hz
           have x1 : wr.cell? ⟨W0.heap.size, 5, none⟩ = some (.string (B x.p.text)) := HR.out.cell (j := 5) (by simp [quadC, termC])
           have x2 : wr.cell? ⟨W0.heap.size, 6, none⟩ = some (.string (B x.p.type)) := HR.out.cell (j := 6) (by simp [quadC, termC])
           have x3 : wr.cell? ⟨W0.heap.size, 7, none⟩ = some (.string (B x.p.lang)) := HR.out.cell (j := 7) (by simp [quadC, termC])
           have xb := World.block_lt_of_cell? _ _ x1
           obtain ⟨s1, s2, s3⟩ := SH.out x.p (.inr (.inl rfl))
           have HRD : Hid (∀ n, RowAt (wr.drewN n) W0.heap.size (quadC x)) := Lib.hid (fun n => HR.out)
           clear hz
           go_wp2_with fail
           go_quiet (fail)
           go_wp2_with fail
           go_roundw
           case rel => exact ⟨2, mm + (20 + x.p.text.length + x.p.type.length + x.p.lang.length), 2, rfl, by go_num, by omega, by go_num, by omega, Lib.hid (HRD.out _), Lib.hid (HB2.out.trans ((below_drewN _ _).mono HB2.out.size))⟩
           case measure => simp [intOf]
         · obtain rfl : z = 2 := by simpa using hz
           have x1 : wr.cell? ⟨W0.heap.size, 9, none⟩ = some (.string (B x.o.text)) := HR.out.cell (j := 9) (by simp [quadC, termC])
           have x2 : wr.cell? ⟨W0.heap.size, 10, none⟩ = some (.string (B x.o.type)) := HR.out.cell (j := 10) (by simp [quadC, termC])
           have x3 : wr.cell? ⟨W0.heap.size, 11, none⟩ = some (.string (B x.o.lang)) := HR.out.cell (j := 11) (by simp [quadC, termC])
           have xb := World.block_lt_of_cell? _ _ x1
           obtain ⟨s1, s2, s3⟩ := SH.out x.o (.inr (.inr (.inl rfl)))
           have HRD : Hid (∀ n, RowAt (wr.drewN n) W0.heap.size (quadC x)) := Lib.hid (fun n => HR.out)
           clear hz
           go_wp2_with fail
           go_quiet (fail)
           go_wp2_with fail
           go_roundw
           case rel => exact ⟨3, mm + (20 + x.o.text.length + x.o.type.length + x.o.lang.length), 3, rfl, by go_num, by omega, by go_num, by omega, Lib.hid (HRD.out _), Lib.hid (HB2.out.trans ((below_drewN _ _).mono HB2.out.size))⟩
           case measure => simp [intOf]
         · obtain rfl : z = 3 := by simpa using hz
           have x1 : wr.cell? ⟨W0.heap.size, 13, none⟩ = some (.string (B x.g.text)) := HR.out.cell (j := 13) (by simp [quadC, termC])
           have x2 : wr.cell? ⟨W0.heap.size, 14, none⟩ = some (.string (B x.g.type)) := HR.out.cell (j := 14) (by simp [quadC, termC])
           have x3 : wr.cell? ⟨W0.heap.size, 15, none⟩ = some (.string (B x.g.lang)) := HR.out.cell (j := 15) (by simp [quadC, termC])
           have xb := World.block_lt_of_cell? _ _ x1
           obtain ⟨s1, s2, s3⟩ := SH.out x.g (.inr (.inr (.inr rfl)))
           have HRD : Hid (∀ n, RowAt (wr.drewN n) W0.heap.size (quadC x)) := Lib.hid (fun n => HR.out)
           clear hz
           go_wp2_with fail
           go_quiet (fail)
           go_wp2_with fail
           go_roundw
           case rel => exact ⟨4, mm + (20 + x.g.text.length + x.g.type.length + x.g.lang.length), 4, rfl, by go_num, by omega, by go_num, by omega, Lib.hid (HRD.out _), Lib.hid (HB2.out.trans ((below_drewN _ _).mono HB2.out.size))⟩
           case measure => simp [intOf]
         · obtain rfl : z = 4 := by simpa using hz
           clear hz
           go_wp2_with fail
           go_roundw
           case rel => exact ⟨k + 1, mm, by go_num, by omega, rfl, by omega, HB2⟩
           case measure => simp [intOf]; omega
     · have q13 : decide ((m : Int) <= 67108864) = false := decide_eq_false (by omega)
       go_wp2_with fail
       go_ret
       exact ⟨⟨_, rfl⟩, HB.out⟩
   · have q10 : decide ((k : Int) < (l.length : Int)) = false := decide_eq_false (by omega)
     go_wp2_with fail
     go_ret
     exact ⟨⟨_, rfl⟩, HB.out⟩
end Go.Proofs.YtmnigckpejcaeaaGreatDoor
