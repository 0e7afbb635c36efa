/-
  lexis.letter; lexis.Lexer: said, tagged: contracts. By an AI agent.
-/
import Derived.Test.YtdhmpakhdhdebaaGreatDoorZLexW8
import Derived.Test.YtdhmpakhdhdebaaGreatDoorZRefEsc3
import Derived.Test.YtdhmpakhdhdebaaGreatDoorZTagCells
import Derived.Test.YtdhmpakhdhdebaaGreatDoorZLabel
namespace Go.Proofs.YtdhmpakhdhdebaaGreatDoor
open Go.RowKit
set_option maxRecDepth 100000
theorem lexLetter_l (c : UInt8) (w : World) : Calls Tryz.prog 99 #[.int .u8 (c.toNat : Int)] w fun e w' => e = .returned (.bool (alphaC c)) /\ w' = w := by
 have hc : ∀ b, alphaC c = b -> Hid (alphaC c = b) := fun b h => Lib.hid h
 by_cases h1 : 97 <= c.toNat
 · have d1 : decide ((97 : Int) <= (c.toNat : Int)) = true := decide_eq_true (by omega)
   by_cases h2 : c.toNat <= 122
   · have d2 : decide ((c.toNat : Int) <= 122) = true := decide_eq_true (by omega)
     have H := hc true (by unfold alphaC; simp; omega)
     clear hc
     go_enter Tryz.func99, Tryz.ntmps99
     go_wp2
     go_ret
     exact ⟨by rw [H.out]; rfl, rfl⟩
   · have d2 : decide ((c.toNat : Int) <= 122) = false := decide_eq_false (by omega)
     have d3 : decide ((65 : Int) <= (c.toNat : Int)) = true := decide_eq_true (by omega)
     have d4 : decide ((c.toNat : Int) <= 90) = false := decide_eq_false (by omega)
     have H := hc false (by unfold alphaC; simp; omega)
     clear hc
     go_enter Tryz.func99, Tryz.ntmps99
     go_wp2
     go_ret
     exact ⟨by rw [H.out]; rfl, rfl⟩
 · have d1 : decide ((97 : Int) <= (c.toNat : Int)) = false := decide_eq_false (by omega)
   by_cases h3 : 65 <= c.toNat
   · have d3 : decide ((65 : Int) <= (c.toNat : Int)) = true := decide_eq_true (by omega)
     by_cases h4 : c.toNat <= 90
     · have d4 : decide ((c.toNat : Int) <= 90) = true := decide_eq_true (by omega)
       have H := hc true (by unfold alphaC; simp; omega)
       clear hc
       go_enter Tryz.func99, Tryz.ntmps99
       go_wp2
       go_ret
       exact ⟨by rw [H.out]; rfl, rfl⟩
     · have d4 : decide ((c.toNat : Int) <= 90) = false := decide_eq_false (by omega)
       have H := hc false (by unfold alphaC; simp; omega)
       clear hc
       go_enter Tryz.func99, Tryz.ntmps99
       go_wp2
       go_ret
       exact ⟨by rw [H.out]; rfl, rfl⟩
   · have d3 : decide ((65 : Int) <= (c.toNat : Int)) = false := decide_eq_false (by omega)
     have H := hc false (by unfold alphaC; simp; omega)
     clear hc
     go_enter Tryz.func99, Tryz.ntmps99
     go_wp2
     go_ret
     exact ⟨by rw [H.out]; rfl, rfl⟩
theorem TkAt.same {W U : World} {g : Nat} (h : TkAt W g) (hc : ∀ a, U.cell? a = W.cell? a := by exact fun _ => rfl) (hf : ∀ a, U.frozen? a = W.frozen? a := by exact fun _ => rfl) (hs : U.heap.size = W.heap.size := by rfl) : TkAt U g :=
 ⟨(hc _).trans h.a0, (hc _).trans h.a1, (hc _).trans h.a2, (hc _).trans h.a3, (hc _).trans h.a4, (hc _).trans h.a5, (hf _).trans h.f0, (hf _).trans h.f1, (hf _).trans h.f2, (hf _).trans h.f3, (hf _).trans h.f4, (hf _).trans h.f5, (hc _).trans h.d0, (hc _).trans h.d1, (hf _).trans h.e0, (hf _).trans h.e1, hs ▸ h.lt⟩
theorem below_same {a W U u : World} (h : Below a.heap.size a W) (hb : Below U.heap.size U u) (ho : U.os = W.os := by rfl) (ht : U.tape = W.tape := by rfl) (hp : U.output = W.output := by rfl) (hh : U.heap = W.heap := by rfl) : Below a.heap.size a u := by
 have h2 : Below a.heap.size a U := ⟨ho.trans h.os, ht.trans h.tape, hp.trans h.output, by rw [hh]; exact h.size, fun k hk => by rw [hh]; exact h.block k hk⟩
 exact h2.trans (hb.mono h2.size)
def saidV (a : Nat) : List UInt8 ⊕ (Nat × Int) -> Value
 | .inl t => .tuple #[.string (B t), .agg #[.int .i64 0, .int .i64 0]]
 | .inr (p, n) => .tuple #[.string ⟨#[]⟩, .agg #[.int .i64 ((a : Int) + (p : Int)), .int .i64 n]]
theorem assertNB (u : World) : (Instr.typeAssert .nilIface 37 91 true).run Tryz.prog u = .ok (.tuple #[.pointer none, .bool false]) u := by kernel_rfl
set_option maxHeartbeats 1600000 in
theorem lexSaid_l (b : Option Addr) (a : Nat) (s : List UInt8) (way : Int) (w : World) (hs : s.length <= 16777216) (ha : a <= 16777216) :
   Calls Tryz.prog 97 #[.pointer b, .int .i64 (a : Int), .string (B s), .int .i64 way] w fun e w' => e = .returned (saidV a (unescF way s 0)) /\ Below w.heap.size w w' := by
 obtain ⟨W, hW⟩ : ∃ W, w.alloc (.cells #[.int .i64 0, .int .i64 0] 111) = W := ⟨_, rfl⟩
 have HB0 : Hid (Below w.heap.size w W) := Lib.hid (by rw [<- hW]; exact (Below.refl _ _).alloc (Nat.le_refl _) _)
 have HK : Hid (RowAt W w.heap.size [.int .i64 0, .int .i64 0]) := Lib.hid (by rw [<- hW]; exact rowAt_of_heap (heap_alloc_new w _))
 have hz : w.heap.size < W.heap.size := World.block_lt_of_cell? _ _ (HK.out.cell (j := 0) (by simp))
 obtain ⟨y, hy⟩ : ∃ y, unescF way s 0 = y := ⟨_, rfl⟩
 rcases y with t | ⟨p, n⟩
 · have UN := Lib.hid (fun (u : World) => unescape_ok hy hs u)
   have TA := fun u => assertNB u
   rw [hy]
   clear hy
   go_enter Tryz.func97, Tryz.ntmps97
   go_wp2_with (go_at_call 142; (with_reducible refine (UN.out _).mono ?_); rintro e w2 ⟨rfl, hb⟩; have HB := Lib.hid (HB0.out.trans (hb.mono HB0.out.size)); have HR := Lib.hid (RowAt.below HK.out hb hz); have c0 := HR.out.cell (j := 0) (by simp); have c1 := HR.out.cell (j := 1) (by simp); have g0 := HR.out.free (j := 0) (by simp); have g1 := HR.out.free (j := 1) (by simp); have hb2 := Nat.lt_of_lt_of_le hz hb.size; clear hb)
   refine bodyPost_ret (v := saidV a (.inl t)) (by simp [results, Tryz.results97, go_sem, c0, c1, saidV]) rfl ?_
   exact ⟨rfl, (HB.out.setCell (p := ⟨w.heap.size, 0, none⟩) (Nat.le_refl _) _).setCell (p := ⟨w.heap.size, 1, none⟩) (Nat.le_refl _) _⟩
 · have UN := Lib.hid (fun (u : World) => unescape_bad hy hs u)
   have TE := fun u => assertE n u
   have hpb := (unesc_at way s s.length 0 p n (by omega) hy).1
   have WA : IntKind.i64.wrap ((a : Int) + (p : Int)) = (a : Int) + (p : Int) := IntWalk.i64_in _ (by omega)
   rw [hy]
   clear hy
   go_enter Tryz.func97, Tryz.ntmps97
   go_wp2_with (go_at_call 142; (with_reducible refine (UN.out _).mono ?_); rintro e w2 ⟨g, rfl, hE, hb⟩; have HB := Lib.hid (HB0.out.trans (hb.mono HB0.out.size)); have HR := Lib.hid (RowAt.below HK.out hb hz); have c0 := HR.out.cell (j := 0) (by simp); have c1 := HR.out.cell (j := 1) (by simp); have g0 := HR.out.free (j := 0) (by simp); have g1 := HR.out.free (j := 1) (by simp); have hb2 := Nat.lt_of_lt_of_le hz hb.size; obtain ⟨g', hgg, q1, q2⟩ := hE; cases hgg; have hgl := World.block_lt_of_cell? _ _ q1; have TB := fun u => assertBB (some ⟨g, 0, none⟩) u; clear hb)
   go_region
   all_goals (go_wp2_with fail)
   all_goals (refine bodyPost_ret (v := saidV a (.inr (p, n))) (by simp [results, Tryz.results97, go_sem, c0, c1, saidV]) rfl ?_)
   all_goals exact ⟨rfl, ((below_drewN_h HB.out 1).setCell (p := ⟨w.heap.size, 0, none⟩) (Nat.le_refl _) _).setCell (p := ⟨w.heap.size, 1, none⟩) (Nat.le_refl _) _⟩
end Go.Proofs.YtdhmpakhdhdebaaGreatDoor
