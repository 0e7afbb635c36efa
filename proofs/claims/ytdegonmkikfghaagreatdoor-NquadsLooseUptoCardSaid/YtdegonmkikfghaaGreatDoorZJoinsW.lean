/-
  tesseralaw09.NquadsJoins: the walk. By an AI agent.
-/
import Derived.Test.YtdegonmkikfghaaGreatDoorZAwk0
import Derived.Test.YtdegonmkikfghaaGreatDoorZPatch0
import Derived.Test.YtdegonmkikfghaaGreatDoorZSets
import Derived.Deep.Cut
import Derived.Test.YtdegonmkikfghaaGreatDoorZSeen
import Derived.Test.YtdegonmkikfghaaGreatDoorZApp
import Derived.BigRegion
import Derived.BigQuiet
import Derived.WalkSmall
import Derived.Test.YtdegonmkikfghaaGreatDoorZKeyQ
import Derived.Test.YtdegonmkikfghaaGreatDoorZValid
namespace Go.Proofs.YtdegonmkikfghaaGreatDoor
open Go.RowKit
set_option maxRecDepth 1000000
theorem cat_two (s t : List UInt8) : B s ++ ByteArray.mk #[10] ++ B t = B (s ++ 10 :: t) := by
 rw [show (ByteArray.mk #[10]) = B [10] from rfl, B_append, B_append, List.append_assoc]; rfl
abbrev ParseN (l : List UInt8) (n : Nat) (w : World) : Prop := ∀ (u : World) (cap : Nat) (C : Array Value), Below w.heap.size w u -> n <= cap -> RowAt (u.alloc (.cells C 5 (C.size, C.size + 1))) u.heap.size (l.map U8) -> Calls Tryz.prog 25 #[.slice (some ⟨u.heap.size, 0, none⟩) n cap] ((u.alloc (.cells C 5 (C.size, C.size + 1))).drew) fun e w' => ParsePost u.heap.size w' e (parseF l) /\ Below u.heap.size u w'
theorem parseN_l (l : List UInt8) (n : Nat) (w : World) (hn : l.length = n) (hl : l.length <= 1048576) (hT : TabAt w) (hM : MaxAt w) (hU : UtAt w) (hE : ErrType w) : ParseN l n w := by
 subst hn
 exact fun u cap C hb hc hr => parse_new l u u cap C (Below.refl _ _) hl hc hr (hT.below hb) (hM.below hb) (hU.below hb) (hE.below hb)
abbrev ConvN (l : List UInt8) (n : Nat) : Prop := ∀ u : World, ∃ cap C, n <= cap /\ (convert 9 25 (.string (B l))).run Tryz.prog u = .ok (.slice (some ⟨u.heap.size, 0, none⟩) n cap) (u.drew.alloc (.cells C 5 (C.size, C.size + 1))) /\ RowAt (u.alloc (.cells C 5 (C.size, C.size + 1))) u.heap.size (l.map U8)
theorem convN_l (l : List UInt8) (n : Nat) (hn : l.length = n) : ConvN l n := by
 subst hn
 exact conv_bytes l
theorem ParsePost.any {r : Nat} {w' : World} {e : Ending} : ∀ {x : List QuadL ⊕ (Nat × Int)}, ParsePost r w' e x -> ∃ v ev, e = .returned (.tuple #[v, ev])
 | .inl _, ⟨v, h, _⟩ => ⟨v, _, h⟩
 | .inr _, ⟨ev, h, _⟩ => ⟨_, ev, h⟩
structure JIn (s t : List UInt8) (w : World) : Prop where
 aw : Calls Tryz.prog 29 #[] w fun e w' => e = .returned (.bool true) /\ Below w.heap.size w w'
 ps : ParseN s s.length w
 pt : ParseN t t.length w
 pst : ParseN (s ++ 10 :: t) (s.length + (t.length + 1)) w
 cs : ConvN s s.length
 ct : ConvN t t.length
 cst : ConvN (s ++ 10 :: t) (s.length + (t.length + 1))
 sn : ∀ (v : Value) (p : Nat) (c : Int) (u : World), ErrIs u v (.inr (p, c)) -> Calls Tryz.prog 20 #[v] u fun e w' => e = .returned (.agg #[.int .i64 (p : Int), .int .i64 c]) /\ Below u.heap.size u w'
theorem jin_l (s t : List UInt8) (w : World) (hT : TabAt w) (hM : MaxAt w) (hU : UtAt w) (hE : ErrType w) (hn : s.length + t.length <= 1048575) : JIn s t w :=
 ⟨awake_l w hT hM hU hE, parseN_l s _ w rfl (by omega) hT hM hU hE, parseN_l t _ w rfl (by omega) hT hM hU hE, parseN_l _ _ w (by rw [List.length_append, List.length_cons]) (by rw [List.length_append, List.length_cons]; omega) hT hM hU hE, convN_l s _ rfl, convN_l t _ rfl, convN_l _ _ (by rw [List.length_append, List.length_cons]), fun v p c u h => seen_err v p c u h⟩
set_option maxHeartbeats 4000000 in
theorem joins_bad1 (s t : List UInt8) (p : Nat) (c : Int) (w : World) (J : JIn s t w) (hn : s.length + t.length <= 1048575) (hp : parseF s = .inr (p, c)) :
   Calls Tryz.prog 10 #[.string (B s), .string (B t)] w fun e w' => e = .returned (.bool true) /\ Below w.heap.size w w' := by
 have HP := Lib.hid hp
 have HPQ := Lib.hid (two_bad (t := t) hp)
 have W0 : IntKind.i64.wrap ((s.length : Int) + (t.length : Int)) = (s.length : Int) + (t.length : Int) := IntWalk.i64_in _ (by omega)
 have d0 : decide ((33554432 : Int) < (s.length : Int) + (t.length : Int)) = false := decide_eq_false (by omega)
 have hcat := cat_two s t
 have HJ := Lib.hid J
 clear J hp
 go_enter Tryz.func10, Tryz.ntmps10
 go_wp2_with (first
   | (go_at_call 29; (with_reducible refine HJ.out.aw.mono ?_); rintro e w2 ⟨rfl, hb2⟩; have HB2 := Lib.hid hb2; obtain ⟨cap, C, hc, hcv, hr⟩ := HJ.out.cs w2; have HC := Lib.hid hc; have HR := Lib.hid hr; clear hb2 hc hr)
   | (go_at_call 25; (with_reducible refine (HJ.out.ps _ _ _ HB2.out HC.out HR.out).mono ?_); rintro e w3 ⟨hP, hb3⟩; rw [HP.out] at hP; obtain ⟨ev, rfl, hF⟩ := hP; have hv := hF; obtain ⟨eb, rfl, _, _⟩ := hv; have HV := Lib.hid hF; clear hF; have HB3 := Lib.hid (HB2.out.trans (hb3.mono HB2.out.size)); obtain ⟨cap2, C2, hc2, hcv2, hr2⟩ := HJ.out.ct w3; have HC2 := Lib.hid hc2; have HR2 := Lib.hid hr2; clear hb3 hc2 hr2 hcv)
   | (go_at_call 25; (with_reducible refine (HJ.out.pt _ _ _ HB3.out HC2.out HR2.out).mono ?_); rintro e w4 ⟨hP, hb4⟩; obtain ⟨v4, ev4, rfl⟩ := hP.any; clear hP; have HB4 := Lib.hid (HB3.out.trans (hb4.mono HB3.out.size)); have HVb := Lib.hid (HV.out.below hb4); obtain ⟨cap3, C3, hc3, hcv3, hr3⟩ := HJ.out.cst w4; have HC3 := Lib.hid hc3; have HR3 := Lib.hid hr3; clear hb4 hc3 hr3 hcv2)
   | (go_at_call 25; (with_reducible refine (HJ.out.pst _ _ _ HB4.out HC3.out HR3.out).mono ?_); rintro e w5 ⟨hP, hb5⟩; rw [HPQ.out] at hP; obtain ⟨ev5, rfl, hG⟩ := hP; have hv5 := hG; obtain ⟨eb5, rfl, _, _⟩ := hv5; have HV3 := Lib.hid hG; clear hG; have HB5 := Lib.hid (HB4.out.trans (hb5.mono HB4.out.size)); have HW := Lib.hid (HVb.out.below hb5); clear hb5 hcv3)
   | (go_at_call 20; (with_reducible refine (HJ.out.sn _ _ _ _ HV3.out).mono ?_); rintro e w6 ⟨rfl, hb6⟩; have HB6 := Lib.hid (HB5.out.trans (hb6.mono HB5.out.size)); have HW1 := Lib.hid (HW.out.below hb6); clear hb6)
   | (go_at_call 20; (with_reducible refine (HJ.out.sn _ _ _ _ HW1.out).mono ?_); rintro e w7 ⟨rfl, hb7⟩; have HB7 := Lib.hid (HB6.out.trans (hb7.mono HB6.out.size)); clear hb7))
 go_ret
 exact ⟨rfl, HB7.out⟩
end Go.Proofs.YtdegonmkikfghaaGreatDoor
namespace Go.Proofs.YtdegonmkikfghaaGreatDoor
open Go.RowKit
set_option maxRecDepth 100000
set_option maxHeartbeats 12000000 in
theorem heavy_l (l : List QuadL) (v : Value) (w : World) (hV : QView w v l) (hS : ∀ q ∈ l, Short q) (hl : l.length <= 1048576) :
   Calls Tryz.prog 11 #[v] w fun e w' => (∃ b, e = .returned (.bool b)) /\ Below w.heap.size w w' := by
 obtain ⟨a, c, rfl, _, hQ⟩ := hV
 have HQ := Lib.hid hQ
 have HS := Lib.hid hS
 have BW : Hid (Below w.heap.size w w) := Lib.hid (Below.refl _ _)
 clear hQ hS
 go_enter Tryz.func11, Tryz.ntmps11
 go_wp2_with fail
 go_loopw [3, 4] (fun n i wr => ∃ (k m : Nat), i = .int .i64 k /\ k <= l.length /\ n = .int .i64 m /\ m <= 100000000 /\ Hid (Below w.heap.size w wr)) (fun _ i _ => l.length - (intOf i).toNat)
 case atStart => exact ⟨0, 0, rfl, Nat.zero_le _, rfl, by omega, BW⟩
 case round =>
   obtain ⟨k, m, rfl, hk, rfl, hm, HB⟩ := hrel
   clear BW
   by_cases hlt : k < l.length
   · have q10 : decide ((k : Int) < (l.length : Int)) = true := decide_eq_true (by omega)
     by_cases hm2 : m <= 67108864
     · have q13 : decide ((m : Int) <= 67108864) = true := decide_eq_true (by omega)
       obtain ⟨b, o, rfl⟩ := HQ.out.place (by omega)
       have hmem := List.getElem_mem hlt
       obtain ⟨x, hx⟩ : ∃ x, l[k] = x := ⟨_, rfl⟩
       have hr := (HQ.out.below HB.out).get hlt
       rw [hx] at hr hmem
       obtain ⟨c0, c1, c2, c3, c4, c5, c6, c7, c8, c9, c10, c11, c12, c13, c14, c15⟩ := cells16 hr
       have hbs := World.block_lt_of_cell? _ _ c0
       have SH := Lib.hid (HS.out x hmem)
       have RN := Lib.hid (fun (u : World) => row_quad u x 72)
       have k0 : 0 <= (k : Int) := by omega
       have k1 : (k : Int) < (l.length : Int) := by omega
       clear hx hmem hr
       obtain ⟨W0, rfl⟩ : ∃ W0 : World, W0 = wr := ⟨_, rfl⟩
       go_wp2_with fail
       go_region
       have HR0 : Hid (RowAt (W0.alloc (.cells #[.int .i64 x.s.kind, .string (B x.s.text), .string (B x.s.type), .string (B x.s.lang), .int .i64 x.p.kind, .string (B x.p.text), .string (B x.p.type), .string (B x.p.lang), .int .i64 x.o.kind, .string (B x.o.text), .string (B x.o.type), .string (B x.o.lang), .int .i64 x.g.kind, .string (B x.g.text), .string (B x.g.type), .string (B x.g.lang)] 72)).drew W0.heap.size (quadC x)) := Lib.hid (RN.out W0)
       have HB0 : Hid (Below w.heap.size w (W0.alloc (.cells #[.int .i64 x.s.kind, .string (B x.s.text), .string (B x.s.type), .string (B x.s.lang), .int .i64 x.p.kind, .string (B x.p.text), .string (B x.p.type), .string (B x.p.lang), .int .i64 x.o.kind, .string (B x.o.text), .string (B x.o.type), .string (B x.o.lang), .int .i64 x.g.kind, .string (B x.g.text), .string (B x.g.type), .string (B x.g.lang)] 72)).drew) := Lib.hid ((HB.out.alloc HB.out.size _).drew)
       clear c0 c1 c2 c3 c4 c5 c6 c7 c8 c9 c10 c11 c12 c13 c14 c15 RN
       go_wp2_with fail
       go_loopw [3, 6] (fun n j wr => ∃ (kk mm : Nat) (z : Int), z = kk /\ j = .int .i64 z /\ kk <= 4 /\ n = .int .i64 mm /\ mm <= 67108864 + kk * 3145748 /\ Hid (RowAt wr W0.heap.size (quadC x)) /\ Hid (Below w.heap.size w wr)) (fun _ j _ => 4 - (intOf j).toNat)
       case atStart => exact ⟨0, m, 0, rfl, rfl, by omega, rfl, by omega, HR0, HB0⟩
       case round =>
         obtain ⟨kk, mm, z, hz, rfl, hkk, rfl, hmm, HR, HB2⟩ := hrel
         clear HR0 HB0
         have ck : kk = 0 \/ kk = 1 \/ kk = 2 \/ kk = 3 \/ kk = 4 := by omega
         rcases ck with rfl | rfl | rfl | rfl | rfl
         · obtain rfl : z = 0 := by simpa using hz
           have x1 : wr.cell? ⟨W0.heap.size, 1, none⟩ = some (.string (B x.s.text)) := HR.out.cell (j := 1) (by simp [quadC, termC])
           have x2 : wr.cell? ⟨W0.heap.size, 2, none⟩ = some (.string (B x.s.type)) := HR.out.cell (j := 2) (by simp [quadC, termC])
           have x3 : wr.cell? ⟨W0.heap.size, 3, none⟩ = some (.string (B x.s.lang)) := HR.out.cell (j := 3) (by simp [quadC, termC])
           have xb := World.block_lt_of_cell? _ _ x1
           obtain ⟨s1, s2, s3⟩ := SH.out x.s (.inl rfl)
           have HRD : Hid (∀ n, RowAt (wr.drewN n) W0.heap.size (quadC x)) := Lib.hid (fun n => HR.out)
           clear hz
           go_wp2_with fail
           go_quiet (fail)
           go_wp2_with fail
           go_roundw
           case rel => exact ⟨1, mm + (20 + x.s.text.length + x.s.type.length + x.s.lang.length), 1, rfl, by go_num, by omega, by go_num, by omega, Lib.hid (HRD.out _), Lib.hid (HB2.out.trans ((below_drewN _ _).mono HB2.out.size))⟩
           case measure => simp [intOf]
         · obtain rfl : z = 1 := by simpa using hz
           have x1 : wr.cell? ⟨W0.heap.size, 5, none⟩ = some (.string (B x.p.text)) := HR.out.cell (j := 5) (by simp [quadC, termC])
           have x2 : wr.cell? ⟨W0.heap.size, 6, none⟩ = some (.string (B x.p.type)) := HR.out.cell (j := 6) (by simp [quadC, termC])
           have x3 : wr.cell? ⟨W0.heap.size, 7, none⟩ = some (.string (B x.p.lang)) := HR.out.cell (j := 7) (by simp [quadC, termC])
           have xb := World.block_lt_of_cell? _ _ x1
           obtain ⟨s1, s2, s3⟩ := SH.out x.p (.inr (.inl rfl))
           have HRD : Hid (∀ n, RowAt (wr.drewN n) W0.heap.size (quadC x)) := Lib.hid (fun n => HR.out)
           clear hz
           go_wp2_with fail
           go_quiet (fail)
           go_wp2_with fail
           go_roundw
           case rel => exact ⟨2, mm + (20 + x.p.text.length + x.p.type.length + x.p.lang.length), 2, rfl, by go_num, by omega, by go_num, by omega, Lib.hid (HRD.out _), Lib.hid (HB2.out.trans ((below_drewN _ _).mono HB2.out.size))⟩
           case measure => simp [intOf]
         · obtain rfl : z = 2 := by simpa using hz
           have x1 : wr.cell? ⟨W0.heap.size, 9, none⟩ = some (.string (B x.o.text)) := HR.out.cell (j := 9) (by simp [quadC, termC])
           have x2 : wr.cell? ⟨W0.heap.size, 10, none⟩ = some (.string (B x.o.type)) := HR.out.cell (j := 10) (by simp [quadC, termC])
           have x3 : wr.cell? ⟨W0.heap.size, 11, none⟩ = some (.string (B x.o.lang)) := HR.out.cell (j := 11) (by simp [quadC, termC])
           have xb := World.block_lt_of_cell? _ _ x1
           obtain ⟨s1, s2, s3⟩ := SH.out x.o (.inr (.inr (.inl rfl)))
           have HRD : Hid (∀ n, RowAt (wr.drewN n) W0.heap.size (quadC x)) := Lib.hid (fun n => HR.out)
           clear hz
           go_wp2_with fail
           go_quiet (fail)
           go_wp2_with fail
           go_roundw
           case rel => exact ⟨3, mm + (20 + x.o.text.length + x.o.type.length + x.o.lang.length), 3, rfl, by go_num, by omega, by go_num, by omega, Lib.hid (HRD.out _), Lib.hid (HB2.out.trans ((below_drewN _ _).mono HB2.out.size))⟩
           case measure => simp [intOf]
         · obtain rfl : z = 3 := by simpa using hz
           have x1 : wr.cell? ⟨W0.heap.size, 13, none⟩ = some (.string (B x.g.text)) := HR.out.cell (j := 13) (by simp [quadC, termC])
           have x2 : wr.cell? ⟨W0.heap.size, 14, none⟩ = some (.string (B x.g.type)) := HR.out.cell (j := 14) (by simp [quadC, termC])
           have x3 : wr.cell? ⟨W0.heap.size, 15, none⟩ = some (.string (B x.g.lang)) := HR.out.cell (j := 15) (by simp [quadC, termC])
           have xb := World.block_lt_of_cell? _ _ x1
           obtain ⟨s1, s2, s3⟩ := SH.out x.g (.inr (.inr (.inr rfl)))
           have HRD : Hid (∀ n, RowAt (wr.drewN n) W0.heap.size (quadC x)) := Lib.hid (fun n => HR.out)
           clear hz
           go_wp2_with fail
           go_quiet (fail)
           go_wp2_with fail
           go_roundw
           case rel => exact ⟨4, mm + (20 + x.g.text.length + x.g.type.length + x.g.lang.length), 4, rfl, by go_num, by omega, by go_num, by omega, Lib.hid (HRD.out _), Lib.hid (HB2.out.trans ((below_drewN _ _).mono HB2.out.size))⟩
           case measure => simp [intOf]
         · obtain rfl : z = 4 := by simpa using hz
           clear hz
           go_wp2_with fail
           go_roundw
           case rel => exact ⟨k + 1, mm, by go_num, by omega, rfl, by omega, HB2⟩
           case measure => simp [intOf]; omega
     · have q13 : decide ((m : Int) <= 67108864) = false := decide_eq_false (by omega)
       go_wp2_with fail
       go_ret
       exact ⟨⟨_, rfl⟩, HB.out⟩
   · have q10 : decide ((k : Int) < (l.length : Int)) = false := decide_eq_false (by omega)
     go_wp2_with fail
     go_ret
     exact ⟨⟨_, rfl⟩, HB.out⟩
end Go.Proofs.YtdegonmkikfghaaGreatDoor
namespace Go.Proofs.YtdegonmkikfghaaGreatDoor
open Go.RowKit
set_option maxRecDepth 1000000
theorem BOwn.room {base : Nat} {a : Option Addr} {n c : Nat} {l : List UInt8} {w : World} (h : BOwn base (.slice a n c) l w) : n = l.length /\ l.length <= c := by
 obtain ⟨a', c', he, hc, _⟩ := ownsRow_at h
 cases he
 exact ⟨rfl, hc⟩
theorem parse_own (l : List QuadL) (b : Nat) (a : Option Addr) (c : Nat) (u : World) (h : BOwn b (.slice a (linesF l).length c) (linesF l) u) (hf : Fine l) (hs : (linesF l).length <= 67108864) (hT : TabAt u) (hM : MaxAt u) (hU : UtAt u) (hE : ErrType u) :
   Calls Tryz.prog 25 #[.slice a (linesF l).length c] u fun e w' => (∃ pa ca, e = .returned (.tuple #[.slice pa l.length ca, .nilIface]) /\ QView w' (.slice pa l.length ca) l) /\ Below u.heap.size u w' := by
 obtain ⟨h1, h2⟩ := lines_lines (l := linesF l) l 0 hf.2.1 (Nat.zero_le _) (by simp)
 refine (nqParse_big (linesF l) a c u h.at h.room.2 hs (fun x hx => by have := h2 x hx; omega) (fun pre A hp hr => by rw [h1] at hp ⊢; have h := readP_length hr; rw [List.length_map] at h; have := hf.1; exact ⟨by omega, fun h3 => by omega⟩) hT hM hU hE).mono ?_
 rintro e w' ⟨hP, hb⟩
 rw [parse_lines hf] at hP
 obtain ⟨v, rfl, hF⟩ := hP
 obtain ⟨pa, ca, rfl⟩ := hF.view.form
 exact ⟨⟨pa, ca, rfl, hF.view⟩, hb⟩
theorem print_ok {l : List QuadL} (hf : Fine l) (hl : l.length <= 524288) (m : Int) (hm : 1099511627776 <= m) : printN l m = (linesF l, 0) := by
 have h := lines_len hf.2.1
 unfold printN
 rw [if_neg (by rw [Classical.not_not]; exact (validF_ok l).2 hf), if_neg (by omega)]
theorem print_fits {l : List QuadL} (hf : Fine l) (m : Int) (hm : ((linesF l).length : Int) <= m) : printN l m = (linesF l, 0) := by
 unfold printN
 rw [if_neg (by rw [Classical.not_not]; exact (validF_ok l).2 hf), if_neg (by omega)]
theorem print_over {l : List QuadL} (hf : Fine l) (m : Int) (hm : m < ((linesF l).length : Int)) : printN l m = ([], 1) := by
 unfold printN
 rw [if_neg (by rw [Classical.not_not]; exact (validF_ok l).2 hf), if_pos hm]
theorem print_bad {l : List QuadL} (h : (validF l).2 ≠ 0) (m : Int) : printN l m = ([], (validF l).2) := by
 unfold printN
 rw [if_pos h]
theorem short_of_wf {q : QuadL} (h : WfQ q) : Short q := by
 obtain ⟨⟨_, a1, a2, a3⟩, ⟨_, b1, b2, b3⟩, ⟨_, c1, c2, c3⟩, ⟨_, d1, d2, d3⟩⟩ := h
 rintro t (rfl | rfl | rfl | rfl)
 · exact ⟨by omega, by omega, by omega⟩
 · exact ⟨by omega, by omega, by omega⟩
 · exact ⟨by omega, by omega, by omega⟩
 · exact ⟨by omega, by omega, by omega⟩
theorem parse_neat {s : List UInt8} {a : List QuadL} (h : parseF s = .inl a) (hs : s.length <= 1048575) : Neat a :=
 ⟨by have := parse_half h; omega, fun q hq => short_of_wf (parse_quads h q hq).2⟩
end Go.Proofs.YtdegonmkikfghaaGreatDoor
namespace Go.Proofs.YtdegonmkikfghaaGreatDoor
open Go.RowKit
set_option maxRecDepth 1000000
structure BIn (l : List QuadL) (s : List UInt8) (v : Value) (w : World) : Prop where
 aw : Calls Tryz.prog 29 #[] w fun e w' => e = .returned (.bool true) /\ Below w.heap.size w w'
 hv : ∀ u, Below w.heap.size w u -> Calls Tryz.prog 11 #[v] u fun e w' => (∃ b, e = .returned (.bool b)) /\ Below u.heap.size u w'
 vl : ∀ u, Below w.heap.size w u -> Calls Tryz.prog 30 #[v] u fun e w' => e = .returned (.tuple #[.int .i64 (validF l).1, .int .i64 (validF l).2]) /\ Below u.heap.size u w'
 pr : ∀ (m : Int) u, Below w.heap.size w u -> Calls Tryz.prog 13 #[v, .int .i64 m] u fun e w' => PrintPost u w' e (printN l m)
 vw : QView w v l
 ps : ParseN s s.length w
 cs : ConvN s s.length
 po : ∀ (l : List QuadL) (b : Nat) (a : Option Addr) (c : Nat) (u : World), Below w.heap.size w u -> BOwn b (.slice a (linesF l).length c) (linesF l) u -> Fine l -> (linesF l).length <= 67108864 -> Calls Tryz.prog 25 #[.slice a (linesF l).length c] u fun e w' => (∃ pa ca, e = .returned (.tuple #[.slice pa l.length ca, .nilIface]) /\ QView w' (.slice pa l.length ca) l) /\ Below u.heap.size u w'
 gp : ∀ (l : List QuadL) (v : Value) (m : Int) (u : World), Below w.heap.size w u -> QView u v l -> Neat l -> Calls Tryz.prog 13 #[v, .int .i64 m] u fun e w' => PrintPost u w' e (printN l m)
 gv : ∀ (l : List QuadL) (v : Value) (u : World), Below w.heap.size w u -> QView u v l -> Neat l -> Calls Tryz.prog 30 #[v] u fun e w' => e = .returned (.tuple #[.int .i64 (validF l).1, .int .i64 (validF l).2]) /\ Below u.heap.size u w'
theorem bin_l (l : List QuadL) (s : List UInt8) (v : Value) (w : World) (hV : QView w v l) (hN : Neat l) (hs : s.length <= 1048576) (hT : TabAt w) (hM : MaxAt w) (hU : UtAt w) (hE : ErrType w) : BIn l s v w where
 aw := awake_l w hT hM hU hE
 hv := fun u hb => heavy_l l v u (hV.below hb) hN.2 (by have := hN.1; omega)
 vl := fun u hb => validQ_l l v u (hT.below hb) (hM.below hb) (hV.below hb) hN
 pr := fun m u hb => by
   have h := hV.below hb
   obtain ⟨a, c, rfl, _, hq⟩ := h
   exact nqPrint_l l a c m u (hT.below hb) (hM.below hb) hN.2 (by have := hN.1; omega) hq
 vw := hV
 ps := parseN_l s _ w rfl hs hT hM hU hE
 cs := convN_l s _ rfl
 po := fun l b a c u hb h hf hl => parse_own l b a c u h hf hl (hT.below hb) (hM.below hb) (hU.below hb) (hE.below hb)
 gp := fun l v m u hb h hN => by
   obtain ⟨a, c, rfl, _, hq⟩ := h
   exact nqPrint_l l a c m u (hT.below hb) (hM.below hb) hN.2 (by have := hN.1; omega) hq
 gv := fun l v u hb h hN => validQ_l l v u (hT.below hb) (hM.below hb) h hN
theorem PrintPost.open {u w' : World} {e : Ending} {L : List UInt8} {n : Int} (h : PrintPost u w' e (L, n)) : ∃ a c, e = .returned (.tuple #[.slice a L.length c, .int .i64 n]) /\ BOwn u.heap.size (.slice a L.length c) L w' /\ Below u.heap.size u w' := by
 obtain ⟨v, rfl, h1, h2⟩ := h
 obtain ⟨a, c, rfl⟩ := BOwn.slice h1
 exact ⟨a, c, rfl, h1, h2⟩
end Go.Proofs.YtdegonmkikfghaaGreatDoor
