/-
  nquads.text, Text: contracts. By an AI agent.
-/
import Derived.Test.YtmnigckpejcaeaaGreatDoorZEsc0
import Derived.Test.YtmnigckpejcaeaaGreatDoorZTextW
import Derived.Test.YtmnigckpejcaeaaGreatDoorZQuadW
import Derived.Test.YtmnigckpejcaeaaGreatDoorZGSpell
import Derived.Test.YtmnigckpejcaeaaGreatDoorZLoadQ
namespace Go.Proofs.YtmnigckpejcaeaaGreatDoor
open Go.RowKit
set_option maxRecDepth 100000
theorem termText_ok {t : TermL} (h : termN t = 0) (w : World) (hT : TabAt w) (hM : MaxAt w) (h1 : t.text.length <= 1048576) (h2 : t.type.length <= 1048576) (h3 : t.lang.length <= 1048576) :
   Calls Tryz.prog 72 #[.agg #[.int .i64 t.kind, .string (B t.text), .string (B t.type), .string (B t.lang)]] w fun e w' => e = .returned (.tuple #[.string (B (textF t)), .int .i64 0]) /\ Below w.heap.size w w' :=
 (termText_l t w hT hM h1 h2 h3).mono fun e w' hh => by
   refine ⟨?_, hh.2⟩
   rw [hh.1]
   unfold textN textV
   rw [if_neg (by rw [h]; simp)]
theorem builds_new (w : World) : BuildsB (w.alloc (.cells #[.pointer none, .slice none 0 0] 129)) w.heap.size w.heap.size [] := Lib.fresh_isBuilder _ _ _
theorem cat_sp (m : List UInt8) : B m ++ (⟨#[32]⟩ : ByteArray) = B (m ++ [32]) := B_append m [32]
theorem cat_dot (m : List UInt8) : B m ++ (⟨#[46]⟩ : ByteArray) = B (m ++ [46]) := B_append m [46]
set_option maxHeartbeats 3200000 in
theorem nqText_l (q : QuadL) (w : World) (hT : TabAt w) (hM : MaxAt w) (hS : Short q) (hq : quadN q = 0) :
   Calls Tryz.prog 45 #[.agg #[.int .i64 q.s.kind, .string (B q.s.text), .string (B q.s.type), .string (B q.s.lang), .int .i64 q.p.kind, .string (B q.p.text), .string (B q.p.type), .string (B q.p.lang), .int .i64 q.o.kind, .string (B q.o.text), .string (B q.o.type), .string (B q.o.lang), .int .i64 q.g.kind, .string (B q.g.text), .string (B q.g.type), .string (B q.g.lang)]] w fun e w' => e = .returned (.string (B (lineF q))) /\ Below w.heap.size w w' := by
 have TX := Lib.hid (fun (t : TermL) (ht : t = q.s \/ t = q.p \/ t = q.o \/ t = q.g) (hk : t.kind ≠ 0) (u : World) (h : Below w.heap.size w u) => termText_ok (quad_term_ok hq t ht hk) u (hT.below h) (hM.below h) (hS t ht).1 (hS t ht).2.1 (hS t ht).2.2)
 have LN := Lib.hid (fun (t : TermL) (ht : t = q.s \/ t = q.p \/ t = q.o \/ t = q.g) => textF_le (hS t ht).1 (hS t ht).2.1 (hS t ht).2.2)
 have WS := Lib.hid writeString_l
 have ST := Lib.hid builderString_l
 clear hT hM hS hq
 have ix0 : ∀ v, (Instr.index 57 (.agg #[.int .i64 q.s.kind, .string (B q.s.text), .string (B q.s.type), .string (B q.s.lang), .int .i64 q.p.kind, .string (B q.p.text), .string (B q.p.type), .string (B q.p.lang), .int .i64 q.o.kind, .string (B q.o.text), .string (B q.o.type), .string (B q.o.lang), .int .i64 q.g.kind, .string (B q.g.text), .string (B q.g.type), .string (B q.g.lang)]) (.int .i64 0)).run Tryz.prog v = .ok (.agg #[.int .i64 q.s.kind, .string (B q.s.text), .string (B q.s.type), .string (B q.s.lang)]) v := fun _ => by kernel_rfl
 have ix1 : ∀ v, (Instr.index 57 (.agg #[.int .i64 q.s.kind, .string (B q.s.text), .string (B q.s.type), .string (B q.s.lang), .int .i64 q.p.kind, .string (B q.p.text), .string (B q.p.type), .string (B q.p.lang), .int .i64 q.o.kind, .string (B q.o.text), .string (B q.o.type), .string (B q.o.lang), .int .i64 q.g.kind, .string (B q.g.text), .string (B q.g.type), .string (B q.g.lang)]) (.int .i64 1)).run Tryz.prog v = .ok (.agg #[.int .i64 q.p.kind, .string (B q.p.text), .string (B q.p.type), .string (B q.p.lang)]) v := fun _ => by kernel_rfl
 have ix2 : ∀ v, (Instr.index 57 (.agg #[.int .i64 q.s.kind, .string (B q.s.text), .string (B q.s.type), .string (B q.s.lang), .int .i64 q.p.kind, .string (B q.p.text), .string (B q.p.type), .string (B q.p.lang), .int .i64 q.o.kind, .string (B q.o.text), .string (B q.o.type), .string (B q.o.lang), .int .i64 q.g.kind, .string (B q.g.text), .string (B q.g.type), .string (B q.g.lang)]) (.int .i64 2)).run Tryz.prog v = .ok (.agg #[.int .i64 q.o.kind, .string (B q.o.text), .string (B q.o.type), .string (B q.o.lang)]) v := fun _ => by kernel_rfl
 have ix3 : ∀ v, (Instr.index 57 (.agg #[.int .i64 q.s.kind, .string (B q.s.text), .string (B q.s.type), .string (B q.s.lang), .int .i64 q.p.kind, .string (B q.p.text), .string (B q.p.type), .string (B q.p.lang), .int .i64 q.o.kind, .string (B q.o.text), .string (B q.o.type), .string (B q.o.lang), .int .i64 q.g.kind, .string (B q.g.text), .string (B q.g.type), .string (B q.g.lang)]) (.int .i64 3)).run Tryz.prog v = .ok (.agg #[.int .i64 q.g.kind, .string (B q.g.text), .string (B q.g.type), .string (B q.g.lang)]) v := fun _ => by kernel_rfl
 have IX := Lib.hid (fun (k : Nat) (hk : k < 4) => (show ∃ t : TermL, (t = q.s \/ t = q.p \/ t = q.o \/ t = q.g) /\ partsF q (k + 1) = partsF q k ++ (if t.kind = 0 then [] else textF t ++ [32]) /\ (∀ v, (Instr.index 57 (.agg #[.int .i64 q.s.kind, .string (B q.s.text), .string (B q.s.type), .string (B q.s.lang), .int .i64 q.p.kind, .string (B q.p.text), .string (B q.p.type), .string (B q.p.lang), .int .i64 q.o.kind, .string (B q.o.text), .string (B q.o.type), .string (B q.o.lang), .int .i64 q.g.kind, .string (B q.g.text), .string (B q.g.type), .string (B q.g.lang)]) (.int .i64 (k : Int))).run Tryz.prog v = .ok (.agg #[.int .i64 t.kind, .string (B t.text), .string (B t.type), .string (B t.lang)]) v) by
   have h4 : k = 0 \/ k = 1 \/ k = 2 \/ k = 3 := by omega
   rcases h4 with rfl | rfl | rfl | rfl
   · exact ⟨q.s, .inl rfl, partsF_1 q, ix0⟩
   · exact ⟨q.p, .inr (.inl rfl), partsF_2 q, ix1⟩
   · exact ⟨q.o, .inr (.inr (.inl rfl)), partsF_3 q, ix2⟩
   · exact ⟨q.g, .inr (.inr (.inr rfl)), partsF_4 q, ix3⟩))
 have BB : Hid (BuildsB ((w.alloc (.cells #[.int .i64 q.s.kind, .string (B q.s.text), .string (B q.s.type), .string (B q.s.lang), .int .i64 q.p.kind, .string (B q.p.text), .string (B q.p.type), .string (B q.p.lang), .int .i64 q.o.kind, .string (B q.o.text), .string (B q.o.type), .string (B q.o.lang), .int .i64 q.g.kind, .string (B q.g.text), .string (B q.g.type), .string (B q.g.lang)] 56)).alloc (.cells #[.pointer none, .slice none 0 0] 129)) (w.heap.size + 1) (w.heap.size + 1) []) := Lib.hid (by
   have := builds_new (w.alloc (.cells #[.int .i64 q.s.kind, .string (B q.s.text), .string (B q.s.type), .string (B q.s.lang), .int .i64 q.p.kind, .string (B q.p.text), .string (B q.p.type), .string (B q.p.lang), .int .i64 q.o.kind, .string (B q.o.text), .string (B q.o.type), .string (B q.o.lang), .int .i64 q.g.kind, .string (B q.g.text), .string (B q.g.type), .string (B q.g.lang)] 56))
   rwa [World.size_alloc] at this)
 have BA : Hid (Below w.heap.size w ((w.alloc (.cells #[.int .i64 q.s.kind, .string (B q.s.text), .string (B q.s.type), .string (B q.s.lang), .int .i64 q.p.kind, .string (B q.p.text), .string (B q.p.type), .string (B q.p.lang), .int .i64 q.o.kind, .string (B q.o.text), .string (B q.o.type), .string (B q.o.lang), .int .i64 q.g.kind, .string (B q.g.text), .string (B q.g.type), .string (B q.g.lang)] 56)).alloc (.cells #[.pointer none, .slice none 0 0] 129))) := Lib.hid (((Below.refl _ _).alloc (Nat.le_refl _) _).alloc (by simp) _)
 clear ix0 ix1 ix2 ix3
 go_enter Tryz.func45, Tryz.ntmps45
 go_wp2_with fail
 go_loopw [17] (fun i wr => ∃ k : Nat, k <= 4 /\ i = .int .i64 k /\ Hid (BuildsB wr (w.heap.size + 1) (w.heap.size + 1) (partsF q k)) /\ Hid (Below w.heap.size w wr) /\ w.heap.size + 1 < wr.heap.size) (fun i _ => 4 - (intOf i).toNat)
 case atStart => exact ⟨0, by omega, rfl, BB, BA, by simp⟩
 case round =>
   obtain ⟨k, hk, rfl, HB, HW, hsz⟩ := hrel
   clear BB BA
   by_cases h4 : k < 4
   · obtain ⟨t, ht, hst, hix⟩ := IX.out k h4
     have q18 : decide ((k : Int) < 4) = true := decide_eq_true (by omega)
     have HLT := (LN.out t ht)
     have hpl := partsF_le q k (fun t ht => LN.out t ht)
     have B1 := Lib.hid (fun (T : TypeId) => And.intro (HB.out.below ((Below.refl wr.heap.size wr).alloc (Nat.le_refl _) (.cells #[.int .i64 t.kind, .string (B t.text), .string (B t.type), .string (B t.lang)] T))) (HW.out.alloc HW.out.size (.cells #[.int .i64 t.kind, .string (B t.text), .string (B t.type), .string (B t.lang)] T)))
     clear HB HW
     by_cases h0 : t.kind = 0
     · have q22 : (t.kind != 0) = false := by rw [h0]; rfl
       rw [if_pos h0, List.append_nil] at hst
       have HS := Lib.hid hst
       clear hst h0 IX TX
       go_wp2_with fail
       go_roundw
       case rel => exact ⟨k + 1, by omega, by go_num, Lib.hid (by rw [HS.out]; exact (B1.out _).1), Lib.hid (B1.out _).2, by simp; omega⟩
       case measure => simp [intOf]; omega
     · have q22 : (t.kind != 0) = true := bne_iff_ne.2 h0
       rw [if_neg h0] at hst
       have HS := Lib.hid hst
       have TX2 := Lib.hid (TX.out t ht h0)
       have CS := cat_sp (textF t)
       clear hst h0 IX TX
       go_wp2_with (first
         | (go_at_call 72; (with_reducible refine (TX2.out _ (B1.out 54).2).mono ?_); rintro e w2 ⟨rfl, hb2⟩; have HB2 := Lib.hid ((B1.out 54).1.below hb2); have HW2 := Lib.hid ((B1.out 54).2.trans (hb2.mono (by have := (B1.out 54).2.size; simpa using this))); have hs2 := hb2.size; simp at hs2; clear hb2)
         | (go_at_call 73; (with_reducible refine (WS.out (w.heap.size + 1) (w.heap.size + 1) (partsF q k) (textF t ++ [32]) _ HB2.out (by simp; omega) (by omega)).mono ?_); rintro e w3 ⟨rfl, hb3, hw3⟩; have HB3 := Lib.hid hb3; have HW3 := Lib.hid (HW2.out.trans (hw3.mono (by omega))); have hs3 := hw3.size; clear hb3 hw3))
       go_roundw
       case rel => exact ⟨k + 1, by omega, by go_num, Lib.hid (by rw [HS.out]; exact HB3.out), HW3, by omega⟩
       case measure => simp [intOf]; omega
   · have q18 : decide ((k : Int) < 4) = false := decide_eq_false (by omega)
     have hpl := partsF_le q k (fun t ht => LN.out t ht)
     have CD := cat_dot (partsF q k)
     have HE : Hid (lineF q = partsF q k ++ [46]) := Lib.hid (by rw [show k = 4 by omega]; exact lineF_parts q)
     clear IX TX
     go_wp2_with (go_at_call 74; (with_reducible refine (ST.out _ _ _ _ HB.out (by omega)).mono ?_); rintro e w3 ⟨rfl, hw3⟩; have HW3 := Lib.hid (HW.out.trans (hw3.mono (by omega))); clear hw3)
     go_ret
     rw [HE.out]
     exact ⟨rfl, HW3.out⟩
set_option maxHeartbeats 3200000 in
theorem nqTextE_l (q : QuadL) (w : World) (hT : TabAt w) (hM : MaxAt w) (hS : Short q) :
   Calls Tryz.prog 24 #[.agg #[.int .i64 q.s.kind, .string (B q.s.text), .string (B q.s.type), .string (B q.s.lang), .int .i64 q.p.kind, .string (B q.p.text), .string (B q.p.type), .string (B q.p.lang), .int .i64 q.o.kind, .string (B q.o.text), .string (B q.o.type), .string (B q.o.lang), .int .i64 q.g.kind, .string (B q.g.text), .string (B q.g.type), .string (B q.g.lang)]] w fun e w' => e = .returned (.tuple #[.string (B (lineN q).1), .int .i64 (lineN q).2]) /\ Below w.heap.size w w' := by
 have CQ := Lib.hid (fun (u : World) (h : Below w.heap.size w u) => checkQuad_l q u (hT.below h) (hM.below h) hS)
 have TQ := Lib.hid (fun (hq : quadN q = 0) (u : World) (h : Below w.heap.size w u) => nqText_l q u (hT.below h) (hM.below h) hS hq)
 have BA : Hid (Below w.heap.size w (w.alloc (.cells #[.int .i64 q.s.kind, .string (B q.s.text), .string (B q.s.type), .string (B q.s.lang), .int .i64 q.p.kind, .string (B q.p.text), .string (B q.p.type), .string (B q.p.lang), .int .i64 q.o.kind, .string (B q.o.text), .string (B q.o.type), .string (B q.o.lang), .int .i64 q.g.kind, .string (B q.g.text), .string (B q.g.type), .string (B q.g.lang)] 56))) := Lib.hid ((Below.refl _ _).alloc (Nat.le_refl _) _)
 have RW := range_row (heap_alloc_new w (.cells #[.int .i64 q.s.kind, .string (B q.s.text), .string (B q.s.type), .string (B q.s.lang), .int .i64 q.p.kind, .string (B q.p.text), .string (B q.p.type), .string (B q.p.lang), .int .i64 q.o.kind, .string (B q.o.text), .string (B q.o.type), .string (B q.o.lang), .int .i64 q.g.kind, .string (B q.g.text), .string (B q.g.type), .string (B q.g.lang)] 56))
 have HRW := Lib.hid (fun (u : World) (h : Below (w.alloc (.cells #[.int .i64 q.s.kind, .string (B q.s.text), .string (B q.s.type), .string (B q.s.lang), .int .i64 q.p.kind, .string (B q.p.text), .string (B q.p.type), .string (B q.p.lang), .int .i64 q.o.kind, .string (B q.o.text), .string (B q.o.type), .string (B q.o.lang), .int .i64 q.g.kind, .string (B q.g.text), .string (B q.g.type), .string (B q.g.lang)] 56)).heap.size (w.alloc (.cells #[.int .i64 q.s.kind, .string (B q.s.text), .string (B q.s.type), .string (B q.s.lang), .int .i64 q.p.kind, .string (B q.p.text), .string (B q.p.type), .string (B q.p.lang), .int .i64 q.o.kind, .string (B q.o.text), .string (B q.o.type), .string (B q.o.lang), .int .i64 q.g.kind, .string (B q.g.text), .string (B q.g.type), .string (B q.g.lang)] 56)) u) => range_row ((h.block w.heap.size (by simp)).trans (heap_alloc_new w (.cells #[.int .i64 q.s.kind, .string (B q.s.text), .string (B q.s.type), .string (B q.s.lang), .int .i64 q.p.kind, .string (B q.p.text), .string (B q.p.type), .string (B q.p.lang), .int .i64 q.o.kind, .string (B q.o.text), .string (B q.o.type), .string (B q.o.lang), .int .i64 q.g.kind, .string (B q.g.text), .string (B q.g.type), .string (B q.g.lang)] 56))))
 clear hT hM hS
 by_cases hq : quadN q = 0
 · have HE : Hid (lineN q = (lineF q, 0)) := Lib.hid (by unfold lineN; rw [if_neg (by rw [hq]; simp)])
   have TQ2 := Lib.hid (TQ.out hq)
   rw [hq] at CQ
   clear hq TQ
   go_enter Tryz.func24, Tryz.ntmps24
   go_wp2_with (first
     | (go_at_call 44; (with_reducible refine (CQ.out _ BA.out).mono ?_); rintro e w2 ⟨rfl, hb2⟩; have HR := HRW.out _ hb2; obtain ⟨h0, h1, h2, h3, h4, h5, h6, h7, h8, h9, h10, h11, h12, h13, h14, h15⟩ := cells16 HR; simp only [Nat.zero_add] at h1 h2 h3 h4 h5 h6 h7 h8 h9 h10 h11 h12 h13 h14 h15; have HB2 := Lib.hid (BA.out.trans (hb2.mono BA.out.size)); clear hb2 HR)
     | (go_at_call 45; (with_reducible refine (TQ2.out _ HB2.out).mono ?_); rintro e w3 ⟨rfl, hb3⟩; have HB3 := Lib.hid (HB2.out.trans (hb3.mono HB2.out.size)); clear hb3))
   go_ret2
   rw [HE.out]
   exact ⟨rfl, HB3.out⟩
 · obtain ⟨n, hn⟩ : ∃ n, quadN q = n := ⟨_, rfl⟩
   have HE : Hid (lineN q = ([], n)) := Lib.hid (by unfold lineN; rw [if_pos hq, hn])
   rw [hn] at CQ hq
   have q8 : (n != 0) = true := bne_iff_ne.2 hq
   clear hq TQ hn
   go_enter Tryz.func24, Tryz.ntmps24
   go_wp2_with (go_at_call 44; (with_reducible refine (CQ.out _ BA.out).mono ?_); rintro e w2 ⟨rfl, hb2⟩; have HB2 := Lib.hid (BA.out.trans (hb2.mono BA.out.size)); clear hb2)
   go_ret2
   rw [HE.out]
   exact ⟨rfl, HB2.out⟩
end Go.Proofs.YtmnigckpejcaeaaGreatDoor
