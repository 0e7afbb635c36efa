/-
  term.angled: a contract. By an AI agent.
-/
import Derived.Test.YtmnigckpejcaeaaGreatDoorZEscW
import Derived.Test.YtmnigckpejcaeaaGreatDoorZEscBack0
import Derived.Test.YtmnigckpejcaeaaGreatDoorZTermD
namespace Go.Proofs.YtmnigckpejcaeaaGreatDoor
open Go.RowKit
set_option maxRecDepth 100000
theorem ang_cat (m : List UInt8) : ((⟨#[60]⟩ : ByteArray) ++ B m) ++ ⟨#[62]⟩ = B (60 :: (m ++ [62])) := by
 rw [show (⟨#[60]⟩ : ByteArray) = B [60] from rfl, show (⟨#[62]⟩ : ByteArray) = B [62] from rfl, B_append, B_append]
 simp
theorem angled_l (t : List UInt8) (w : World) (hl : t.length <= 16777216) (hu : utfF t 0 = -1) :
   Calls Tryz.prog 105 #[.string (B t)] w fun e w' => e = .returned (.string (B (angF t))) /\ Below w.heap.size w w' := by
 have ES := Lib.hid (fun u => escape_ok 2 t u hl hu)
 have hle : (escF 2 t 0).length <= 100663296 := by have := escF_len 2 t t.length 0 (by omega); omega
 have AC := Lib.hid (ang_cat (escF 2 t 0))
 clear hu
 go_enter Tryz.func105, Tryz.ntmps105
 go_wp2_with (go_at_call 106; (with_reducible refine (ES.out _).mono ?_); rintro e w1 ⟨rfl, hb⟩; have HB := Lib.hid hb; clear hb)
 go_ret
 refine ⟨?_, HB.out⟩
 first | exact congrArg (fun s => Ending.returned (.string s)) AC.out | rfl
theorem box4_kept {w w1 : World} {a b c d : Value} {T : TypeId} (hb : Below (w.alloc (.cells #[a, b, c, d] T)).heap.size (w.alloc (.cells #[a, b, c, d] T)) w1) :
   w1.cell? ⟨w.heap.size, 0, none⟩ = some a /\ w1.cell? ⟨w.heap.size, 1, none⟩ = some b /\ w1.cell? ⟨w.heap.size, 2, none⟩ = some c /\ w1.cell? ⟨w.heap.size, 3, none⟩ = some d := by
 refine ⟨?_, ?_, ?_, ?_⟩ <;> (rw [hb.cell (by simp), World.cell?_alloc_new]; rfl)
end Go.Proofs.YtmnigckpejcaeaaGreatDoor
namespace Go.Proofs.YtmnigckpejcaeaaGreatDoor
open Go.RowKit
set_option maxRecDepth 100000
def textV (x : List UInt8 × Int) : Value := .tuple #[.string (B x.1), .int .i64 x.2]
theorem textN_bad {t : TermL} {n : Int} (h : termN t = n) (hn : n ≠ 0) : Ending.returned (textV (textN t)) = .returned (.tuple #[.string ⟨#[]⟩, .int .i64 n]) := by
 unfold textN
 rw [h, if_pos hn]
 rfl
theorem textN_ok {t : TermL} {s : ByteArray} (h : termN t = 0) (hs : s = B (textF t)) : Ending.returned (textV (textN t)) = .returned (.tuple #[.string s, .int .i64 0]) := by
 unfold textN
 rw [if_neg (by rw [h]; simp), hs]
 rfl
theorem cat_l (a : UInt8) (m : List UInt8) : (⟨#[a]⟩ : ByteArray) ++ B m = B (a :: m) := B_append [a] m
theorem cat_2 (a b : UInt8) (m : List UInt8) : (⟨#[a, b]⟩ : ByteArray) ++ B m = B (a :: b :: m) := B_append [a, b] m
theorem cat_r (a : UInt8) (m : List UInt8) : B m ++ (⟨#[a]⟩ : ByteArray) = B (m ++ [a]) := B_append m [a]
set_option maxHeartbeats 3200000 in
theorem termText_l (t : TermL) (w : World) (hT : TabAt w) (hM : MaxAt w) (h1 : t.text.length <= 1048576) (h2 : t.type.length <= 1048576) (h3 : t.lang.length <= 1048576) :
   Calls Tryz.prog 72 #[termV t] w fun e w' => e = .returned (textV (textN t)) /\ Below w.heap.size w w' := by
 have CK := Lib.hid (fun u (h : Below w.heap.size w u) => check_l t u (hT.below h) (hM.below h) h1 h2 h3)
 clear hT hM
 obtain ⟨k, tx, ty, la⟩ := t
 simp only at h1 h2 h3
 unfold termV at CK ⊢
 simp only at CK ⊢
 have BA : Hid (Below w.heap.size w (w.alloc (.cells #[.int .i64 k, .string (B tx), .string (B ty), .string (B la)] 54))) := Lib.hid ((Below.refl _ _).alloc (Nat.le_refl _) _)
 by_cases hn : termN ⟨k, tx, ty, la⟩ = 0
 · rw [hn] at CK
   rcases term_cases hn with ⟨hk, -, -, hi⟩ | ⟨hk, -, -, -, -⟩ | ⟨hk, hl⟩
   · simp only at hk hi
     subst hk
     have AN := Lib.hid (fun u => angled_l tx u (by omega) (utf_of_iri hi))
     have HE := Lib.hid (textN_ok hn (s := B (angF tx)) (by unfold textF; rw [if_pos rfl]))
     clear hn hi
     go_enter Tryz.func72, Tryz.ntmps72
     go_wp2_with (first | (go_at_call 71; (refine (CK.out _ BA.out).mono ?_); rintro e w1 ⟨rfl, hb⟩; have kk := box4_kept hb; obtain ⟨c0, c1, c2, c3⟩ := kk; have HB1 := Lib.hid hb; clear hb) | (go_at_call 105; (with_reducible refine (AN.out _).mono ?_); rintro e w3 ⟨rfl, hb⟩; have HB3 := Lib.hid (HB1.out.trans (hb.mono HB1.out.size)); clear hb))
     go_ret2
     exact ⟨HE.out.symm, BA.out.trans (HB3.out.mono BA.out.size)⟩
   · simp only at hk
     subst hk
     have HE := Lib.hid (textN_ok hn (s := B (95 :: 58 :: tx)) (by unfold textF; rw [if_neg (by simp), if_pos rfl]))
     have CC := cat_2 95 58 tx
     clear hn
     go_enter Tryz.func72, Tryz.ntmps72
     go_wp2_with (go_at_call 71; (refine (CK.out _ BA.out).mono ?_); rintro e w1 ⟨rfl, hb⟩; have kk := box4_kept hb; obtain ⟨c0, c1, c2, c3⟩ := kk; have HB1 := Lib.hid hb; clear hb)
     go_ret2
     exact ⟨HE.out.symm, BA.out.trans (HB1.out.mono BA.out.size)⟩
   · simp only at hk
     subst hk
     obtain ⟨-, hu, hi, hc⟩ := lit_cases hl
     simp only at hu hi hc
     have ES := Lib.hid (fun u => escape_ok 1 tx u (by omega) hu)
     have AN := Lib.hid (fun u => angled_l ty u (by omega) (utf_of_iri hi))
     have hle : (escF 1 tx 0).length <= 6291456 := by have := escF_len 1 tx tx.length 0 (by omega); omega
     have hlf : (angF ty).length <= 6291458 := by have := escF_len 2 ty ty.length 0 (by omega); unfold angF; simp; omega
     have CC := cat_l 34 (escF 1 tx 0)
     have CD := cat_r 34 (34 :: escF 1 tx 0)
     by_cases hla : la = []
     · have s1 : la.isEmpty = true := by rw [hla]; rfl
       by_cases hty : ty = plainT
       · have s3 : (ty == plainT) = true := beq_iff_eq.2 hty
         have HE := Lib.hid (textN_ok hn (s := B (34 :: escF 1 tx 0 ++ [34])) (by unfold textF; rw [if_neg (by simp), if_neg (by simp)]; simp [hla, hty]))
         unfold plainT at s3
         clear hn hu hi hc hl hla hty AN
         go_enter Tryz.func72, Tryz.ntmps72
         go_wp2_with (first | (go_at_call 71; (refine (CK.out _ BA.out).mono ?_); rintro e w1 ⟨rfl, hb⟩; have kk := box4_kept hb; obtain ⟨c0, c1, c2, c3⟩ := kk; have HB1 := Lib.hid hb; clear hb) | (go_at_call 106; (with_reducible refine (ES.out _).mono ?_); rintro e w2 ⟨rfl, hb⟩; have kk := box4_kept (HB1.out.trans (hb.mono HB1.out.size)); clear c0 c1 c2 c3; obtain ⟨c0, c1, c2, c3⟩ := kk; have HB2 := Lib.hid (HB1.out.trans (hb.mono HB1.out.size)); clear hb))
         go_ret2
         exact ⟨HE.out.symm, BA.out.trans (HB2.out.mono BA.out.size)⟩
       · have s3 : (ty == plainT) = false := beq_eq_false_iff_ne.2 hty
         have CE := cat_2 94 94 (angF ty)
         have HE := Lib.hid (textN_ok hn (s := B (34 :: (escF 1 tx 0 ++ 34 :: 94 :: 94 :: angF ty))) (by unfold textF; rw [if_neg (by simp), if_neg (by simp)]; simp [hla, hty]))
         unfold plainT at s3
         clear hn hu hi hc hl hla hty
         go_enter Tryz.func72, Tryz.ntmps72
         go_wp2_with (first | (go_at_call 71; (refine (CK.out _ BA.out).mono ?_); rintro e w1 ⟨rfl, hb⟩; have kk := box4_kept hb; obtain ⟨c0, c1, c2, c3⟩ := kk; have HB1 := Lib.hid hb; clear hb) | (go_at_call 106; (with_reducible refine (ES.out _).mono ?_); rintro e w2 ⟨rfl, hb⟩; have kk := box4_kept (HB1.out.trans (hb.mono HB1.out.size)); clear c0 c1 c2 c3; obtain ⟨c0, c1, c2, c3⟩ := kk; have HB2 := Lib.hid (HB1.out.trans (hb.mono HB1.out.size)); clear hb) | (go_at_call 105; (with_reducible refine (AN.out _).mono ?_); rintro e w3 ⟨rfl, hb⟩; have HB3 := Lib.hid (HB2.out.trans (hb.mono HB2.out.size)); clear hb))
         go_ret2
         exact ⟨HE.out.symm, BA.out.trans (HB3.out.mono BA.out.size)⟩
     · have s1 : la.isEmpty = false := by cases la with | nil => exact absurd rfl hla | cons => rfl
       have CE := cat_l 64 la
       have HE := Lib.hid (textN_ok hn (s := B (34 :: (escF 1 tx 0 ++ 34 :: 64 :: la))) (by unfold textF; rw [if_neg (by simp), if_neg (by simp)]; simp [hla]))
       clear hn hu hi hc hl hla AN
       go_enter Tryz.func72, Tryz.ntmps72
       go_wp2_with (first | (go_at_call 71; (refine (CK.out _ BA.out).mono ?_); rintro e w1 ⟨rfl, hb⟩; have kk := box4_kept hb; obtain ⟨c0, c1, c2, c3⟩ := kk; have HB1 := Lib.hid hb; clear hb) | (go_at_call 106; (with_reducible refine (ES.out _).mono ?_); rintro e w2 ⟨rfl, hb⟩; have kk := box4_kept (HB1.out.trans (hb.mono HB1.out.size)); clear c0 c1 c2 c3; obtain ⟨c0, c1, c2, c3⟩ := kk; have HB2 := Lib.hid (HB1.out.trans (hb.mono HB1.out.size)); clear hb))
       go_ret2
       exact ⟨HE.out.symm, BA.out.trans (HB2.out.mono BA.out.size)⟩
 · obtain ⟨n, hN⟩ : ∃ n, termN ⟨k, tx, ty, la⟩ = n := ⟨_, rfl⟩
   rw [hN] at CK hn
   have HE := Lib.hid (textN_bad hN hn)
   have e0 : (n == 0) = false := beq_eq_false_iff_ne.2 hn
   have e1 : (n != 0) = true := bne_iff_ne.2 hn
   clear hN hn
   go_enter Tryz.func72, Tryz.ntmps72
   go_wp2_with (go_at_call 71; (refine (CK.out _ BA.out).mono ?_); rintro e w1 ⟨rfl, hb⟩; have kk := box4_kept hb; obtain ⟨c0, c1, c2, c3⟩ := kk; have HB1 := Lib.hid hb; clear hb)
   go_ret2
   exact ⟨HE.out.symm, BA.out.trans (HB1.out.mono BA.out.size)⟩
end Go.Proofs.YtmnigckpejcaeaaGreatDoor
