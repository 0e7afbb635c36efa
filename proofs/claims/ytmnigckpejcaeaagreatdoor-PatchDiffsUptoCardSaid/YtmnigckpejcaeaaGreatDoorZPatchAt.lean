/-
  patch.at: a contract. By an AI agent.
-/
import Derived.Test.YtmnigckpejcaeaaGreatDoorZLabel
import Derived.Test.YtmnigckpejcaeaaGreatDoorZAs
import Derived.Test.YtmnigckpejcaeaaGreatDoorZRdW1
import Derived.Test.YtmnigckpejcaeaaGreatDoorZLoose0
namespace Go.Proofs.YtmnigckpejcaeaaGreatDoor
open Go.RowKit
set_option maxRecDepth 100000
theorem patchAt_l (p n : Int) (w : World) : Calls Tryz.prog 57 #[.int .i64 p, .int .i64 n] w fun e w' => e = .returned (.iface 77 (.pointer (some ⟨w.heap.size, 0, none⟩))) /\ w' = w.alloc (.cells #[.int .i64 p, .iface 28 (.int .i64 n)] 79) := by
 go_enter Tryz.func57, Tryz.ntmps57
 go_wp2
 go_ret
 exact ⟨rfl, rfl⟩
end Go.Proofs.YtmnigckpejcaeaaGreatDoor
namespace Go.Proofs.YtmnigckpejcaeaaGreatDoor
open Go.RowKit
set_option maxRecDepth 1000000
theorem pl_end {s : List UInt8} (h : s.length <= blkF s 0) : pLine s = .inl none := by unfold pLine; rw [if_pos h]
theorem pl_other {s : List UInt8} {j : Nat} (hj : j < s.length) (hb : blkF s 0 = j) (h1 : s[j] ≠ 35) (h2 : s[j] ≠ 45) (h3 : s[j] ≠ 43) : pLine s = .inr (j, 90) := by
 have hg : s.getD j 0 = s[j] := by simp [List.getD, hj]
 unfold pLine
 rw [hb, if_neg (by omega), hg, if_neg h1, if_neg (fun x => x.elim h2 h3)]
theorem pl_hash' {s : List UInt8} {j : Nat} (hj : j < s.length) (hb : blkF s 0 = j) (h : s[j] = 35) {x : Option QuadL ⊕ (Nat × Int)} (hx : lineAt (s.drop j) = x) : (∀ f, x = .inr f -> pLine s = .inr (j + f.1, f.2)) /\ (∀ q, x = .inl q -> pLine s = .inl none) := by
 have hg : s.getD j 0 = 35 := by simp [List.getD, hj, h]
 unfold pLine
 rw [hb, if_neg (by omega), if_pos hg, hx]
 exact ⟨fun f e => by rw [e], fun q e => by rw [e]⟩
theorem pl_sign' {s : List UInt8} {j : Nat} (hj : j < s.length) (hb : blkF s 0 = j) (h : s[j] = 45 \/ s[j] = 43) {x : Option QuadL ⊕ (Nat × Int)} (hx : lineAt (s.drop (j + 1)) = x) : (∀ f, x = .inr f -> pLine s = .inr (j + 1 + f.1, f.2)) /\ (x = .inl none -> pLine s = .inr (s.length, 90)) /\ (∀ q, x = .inl (some q) -> pLine s = .inl (some (s[j] == 43, j, q))) := by
 have hg : s.getD j 0 = s[j] := by simp [List.getD, hj]
 have h35 : s[j] ≠ 35 := by rcases h with h | h <;> (rw [h]; decide)
 unfold pLine
 rw [hb, if_neg (by omega), hg, if_neg h35, if_pos h, hx]
 exact ⟨fun f e => by rw [e], fun e => by rw [e], fun q e => by rw [e]⟩
structure PRaw (w : World) (b gm n1 : Nat) (m p A : List QuadL) (vm vp : Value) (W : World) : Prop where
 row : W.heap[b]? = some (.cells #[vm, vp, .map (some gm)] 71 (0, 0))
 om : QOwn n1 vm m W
 op : QOwn n1 vp p W
 mp : W.ownsMap Tryz.prog 56 Go.unitElem gm A.length (setD A)
 ne : ∀ k, vm.ownBlock = some k -> vp.ownBlock ≠ some k
 lt : n1 <= W.heap.size
 bn : b < n1
 gn : gm < n1
 bg : gm ≠ b
 rb : w.heap.size <= b
 rg : w.heap.size <= gm
 bw : Below w.heap.size w W
 nm : m = [] -> vm = .slice none 0 0
 np : p = [] -> vp = .slice none 0 0
theorem PRaw.below {w : World} {b gm n1 : Nat} {m p A : List QuadL} {vm vp : Value} {W W' : World} (h : PRaw w b gm n1 m p A vm vp W) (hb : Below W.heap.size W W') : PRaw w b gm n1 m p A vm vp W' :=
 ⟨(hb.block b (Array.getElem?_eq_some_iff.1 h.row).1).trans h.row, h.om.below hb, h.op.below hb, h.mp.kept (below_grown hb none) (by simp), h.ne, Nat.le_trans h.lt hb.size, h.bn, h.gn, h.bg, h.rb, h.rg, h.bw.trans (hb.mono h.bw.size), h.nm, h.np⟩
structure PAt (w : World) (b gm n1 : Nat) (m p A : List QuadL) (vm vp : Value) (W : World) : Prop where
 raw : PRaw w b gm n1 m p A vm vp W
 mem : ∀ q, q ∈ A ↔ q ∈ m \/ q ∈ p
 len : A.length = m.length + p.length
 wf : ∀ q ∈ A, WfQ q
theorem PAt.below {w : World} {b gm n1 : Nat} {m p A : List QuadL} {vm vp : Value} {W W' : World} (h : PAt w b gm n1 m p A vm vp W) (hb : Below W.heap.size W W') : PAt w b gm n1 m p A vm vp W' :=
 ⟨h.raw.below hb, h.mem, h.len, h.wf⟩
def PostL (w : World) (b gm n1 : Nat) (e : Ending) (W' : World) : (List QuadL × List QuadL) ⊕ (Nat × Int) -> Prop
 | .inl (m, p) => e = .returned .nilIface /\ ∃ A vm vp, PAt w b gm n1 m p A vm vp W'
 | .inr f => (∃ ev, e = .returned ev /\ ErrIs W' ev (.inr f)) /\ Below w.heap.size w W'
theorem errAt_new {u : World} {p : Nat} {P n : Int} (h : P = (p : Int)) : ErrIs (u.alloc (.cells #[.int .i64 P, .iface 28 (.int .i64 n)] 79)) (.iface 77 (.pointer (some ⟨u.heap.size, 0, none⟩))) (.inr (p, n)) := by
 subst h
 refine ⟨u.heap.size, rfl, ?_, ?_⟩
 · rw [World.cell?_alloc_new]; rfl
 · rw [World.cell?_alloc_new]; rfl
theorem pStep_of {m p : List QuadL} {x : Nat × List UInt8} {y : Option (Bool × Nat × QuadL) ⊕ (Nat × Int)} (h : pLine x.2 = y) :
   (∀ f, y = .inr f -> pStep (.inl (m, p)) x = .inr (x.1 + f.1, f.2)) /\ (y = .inl none -> pStep (.inl (m, p)) x = .inl (m, p)) /\
   (∀ b k q, y = .inl (some (b, k, q)) -> (q ∈ m \/ q ∈ p -> pStep (.inl (m, p)) x = .inr (x.1 + k, 230)) /\ (¬ (q ∈ m \/ q ∈ p) -> pStep (.inl (m, p)) x = .inl (if b = true then (m, p ++ [q]) else (m ++ [q], p)))) := by
 unfold pStep
 rw [h]
 refine ⟨fun f e => by rw [e], fun e => by rw [e], fun b k q e => ⟨fun hc => by rw [e]; simp only; rw [if_pos hc], fun hc => ?_⟩⟩
 rw [e]
 simp only
 rw [if_neg hc]
 cases b <;> rfl
set_option maxHeartbeats 1600000 in
theorem pline_end (w : World) (b gm n1 fr : Nat) (s : List UInt8) (m p A : List QuadL) (vm vp : Value) (W : World) (P : PAt w b gm n1 m p A vm vp W) (hs : s.length <= 16777216) (_hf : fr <= 67108864) (hx : s.length <= blkF s 0) :
   Calls Tryz.prog 29 #[.pointer (some ⟨b, 0, none⟩), .string (B s), .int .i64 (fr : Int)] W fun e W' => PostL w b gm n1 e W' (pStep (.inl (m, p)) (fr, s)) := by
 have HQ : Hid (pStep (.inl (m, p)) (fr, s) = .inl (m, p)) := Lib.hid ((pStep_of rfl).2.1 (pl_end hx))
 have PP := Lib.hid P
 have HX := Lib.hid hx
 clear P hx
 go_enter Tryz.func29, Tryz.ntmps29
 go_wp2_with fail
 go_loopw [7] (fun z wr => ∃ j : Nat, z = .int .i64 j /\ j <= s.length /\ Hid (blkF s 0 = blkF s j) /\ Hid (wr = W)) (fun z _ => s.length - (intOf z).toNat)
 case atStart => exact ⟨0, rfl, Nat.zero_le _, Lib.hid rfl, Lib.hid rfl⟩
 case round =>
   obtain ⟨j, rfl, hj, HS, HW⟩ := hrel
   obtain rfl : W = wr := HW.out.symm
   clear HW
   by_cases hlt : j < s.length
   case neg =>
     have e1 : decide ((j : Int) < (s.length : Int)) = false := decide_eq_false (by omega)
     have e1n : decide (j < s.length) = false := decide_eq_false hlt
     have e5 : ((j : Int) == (s.length : Int)) = true := beq_iff_eq.2 (by omega)
     clear HS
     go_wp2_with fail
     go_ret
     rw [HQ.out]
     exact ⟨rfl, A, vm, vp, PP.out⟩
   have e1 : decide ((j : Int) < (s.length : Int)) = true := decide_eq_true (by omega)
   have e1n : decide (j < s.length) = true := decide_eq_true hlt
   have j0 : 0 <= (j : Int) := by omega
   have j1 : (j : Int) < (s.length : Int) := by omega
   have hgj : s.getD j 0 = s[j] := by simp [List.getD, hlt]
   by_cases h32 : s[j] = 32
   · have e2 : ((s[j].toNat : Int) == 32) = true := byte_eq (d := 32) h32
     have HE : Hid (blkF s 0 = blkF s (j + 1)) := Lib.hid (by rw [HS.out, blkF_go hlt (by rw [hgj]; exact .inl h32)])
     clear h32 HS hgj HX
     go_wp2_with fail
     go_roundw
     case rel => exact ⟨j + 1, by go_num, hlt, HE, Lib.hid (by first | rfl | trivial)⟩
     case measure => simp [intOf]; omega
   have e2 : ((s[j].toNat : Int) == 32) = false := byte_ne (d := 32) h32
   by_cases h9 : s[j] = 9
   · have e3 : ((s[j].toNat : Int) == 9) = true := byte_eq (d := 9) h9
     have HE : Hid (blkF s 0 = blkF s (j + 1)) := Lib.hid (by rw [HS.out, blkF_go hlt (by rw [hgj]; exact .inr h9)])
     clear h32 h9 HS hgj HX
     go_wp2_with fail
     go_roundw
     case rel => exact ⟨j + 1, by go_num, hlt, HE, Lib.hid (by first | rfl | trivial)⟩
     case measure => simp [intOf]; omega
   have e3 : ((s[j].toNat : Int) == 9) = false := byte_ne (d := 9) h9
   have HB : Hid (blkF s 0 = j) := Lib.hid (by rw [HS.out, blkF_stop hlt (by rw [hgj]; exact fun h => h.elim h32 h9)])
   have e5 : ((j : Int) == (s.length : Int)) = false := beq_eq_false_iff_ne.2 (by omega)
   have j2 : (j : Int) <= (s.length : Int) := by omega
   have j3 : 0 <= (j : Int) + 1 := by omega
   have j4 : (j : Int) + 1 <= (s.length : Int) := by omega
   clear h32 h9 HS hgj
   exact absurd HX.out (by rw [HB.out]; omega)
set_option maxHeartbeats 1600000 in
theorem pline_other (w : World) (b gm n1 fr : Nat) (s : List UInt8) (m p A : List QuadL) (vm vp : Value) (W : World) (P : PAt w b gm n1 m p A vm vp W) (hs : s.length <= 16777216) (hf : fr <= 67108864) (hx : blkF s 0 < s.length) (h1 : s[blkF s 0] ≠ 35) (h2 : s[blkF s 0] ≠ 45) (h3 : s[blkF s 0] ≠ 43) :
   Calls Tryz.prog 29 #[.pointer (some ⟨b, 0, none⟩), .string (B s), .int .i64 (fr : Int)] W fun e W' => PostL w b gm n1 e W' (pStep (.inl (m, p)) (fr, s)) := by
 have H123 : Hid (s[blkF s 0] ≠ 35 /\ s[blkF s 0] ≠ 45 /\ s[blkF s 0] ≠ 43) := Lib.hid ⟨h1, h2, h3⟩
 have PP := Lib.hid P
 have HX := Lib.hid hx
 clear P h1 h2 h3
 go_enter Tryz.func29, Tryz.ntmps29
 go_wp2_with fail
 go_loopw [7] (fun z wr => ∃ j : Nat, z = .int .i64 j /\ j <= s.length /\ Hid (blkF s 0 = blkF s j) /\ Hid (wr = W)) (fun z _ => s.length - (intOf z).toNat)
 case atStart => exact ⟨0, rfl, Nat.zero_le _, Lib.hid rfl, Lib.hid rfl⟩
 case round =>
   obtain ⟨j, rfl, hj, HS, HW⟩ := hrel
   obtain rfl : W = wr := HW.out.symm
   clear HW
   by_cases hlt : j < s.length
   case neg =>
     exact absurd HX.out (by rw [HS.out, blkF_end (by omega)]; omega)
   have e1 : decide ((j : Int) < (s.length : Int)) = true := decide_eq_true (by omega)
   have e1n : decide (j < s.length) = true := decide_eq_true hlt
   have j0 : 0 <= (j : Int) := by omega
   have j1 : (j : Int) < (s.length : Int) := by omega
   have hgj : s.getD j 0 = s[j] := by simp [List.getD, hlt]
   by_cases h32 : s[j] = 32
   · have e2 : ((s[j].toNat : Int) == 32) = true := byte_eq (d := 32) h32
     have HE : Hid (blkF s 0 = blkF s (j + 1)) := Lib.hid (by rw [HS.out, blkF_go hlt (by rw [hgj]; exact .inl h32)])
     clear h32 HS hgj HX
     go_wp2_with fail
     go_roundw
     case rel => exact ⟨j + 1, by go_num, hlt, HE, Lib.hid (by first | rfl | trivial)⟩
     case measure => simp [intOf]; omega
   have e2 : ((s[j].toNat : Int) == 32) = false := byte_ne (d := 32) h32
   by_cases h9 : s[j] = 9
   · have e3 : ((s[j].toNat : Int) == 9) = true := byte_eq (d := 9) h9
     have HE : Hid (blkF s 0 = blkF s (j + 1)) := Lib.hid (by rw [HS.out, blkF_go hlt (by rw [hgj]; exact .inr h9)])
     clear h32 h9 HS hgj HX
     go_wp2_with fail
     go_roundw
     case rel => exact ⟨j + 1, by go_num, hlt, HE, Lib.hid (by first | rfl | trivial)⟩
     case measure => simp [intOf]; omega
   have e3 : ((s[j].toNat : Int) == 9) = false := byte_ne (d := 9) h9
   have HB : Hid (blkF s 0 = j) := Lib.hid (by rw [HS.out, blkF_stop hlt (by rw [hgj]; exact fun h => h.elim h32 h9)])
   have e5 : ((j : Int) == (s.length : Int)) = false := beq_eq_false_iff_ne.2 (by omega)
   have j2 : (j : Int) <= (s.length : Int) := by omega
   have j3 : 0 <= (j : Int) + 1 := by omega
   have j4 : (j : Int) + 1 <= (s.length : Int) := by omega
   clear h32 h9 HS hgj
   have X1 : s[j] ≠ 35 /\ s[j] ≠ 45 /\ s[j] ≠ 43 := by
     have := H123.out
     simp only [HB.out] at this
     exact this
   have e6 : ((s[j].toNat : Int) == 35) = false := byte_ne (d := 35) X1.1
   have e7 : ((s[j].toNat : Int) == 45) = false := byte_ne (d := 45) X1.2.1
   have e8 : ((s[j].toNat : Int) == 43) = false := byte_ne (d := 43) X1.2.2
   have HQ : Hid (pStep (.inl (m, p)) (fr, s) = .inr (fr + j, 90)) := Lib.hid ((pStep_of rfl).1 (j, 90) (pl_other hlt HB.out X1.1 X1.2.1 X1.2.2))
   clear X1 H123
   go_wp2_with (go_at_call 57; (with_reducible refine (patchAt_l _ _ _).mono ?_); rintro e w4 ⟨rfl, rfl⟩)
   go_ret
   rw [HQ.out]
   exact ⟨⟨_, rfl, errAt_new (by omega)⟩, PP.out.raw.bw.alloc PP.out.raw.bw.size _⟩
set_option maxHeartbeats 1600000 in
theorem pline_hash (w : World) (b gm n1 fr : Nat) (s : List UInt8) (m p A : List QuadL) (vm vp : Value) (W : World) (P : PAt w b gm n1 m p A vm vp W) (hs : s.length <= 16777216) (_hf : fr <= 67108864) (hx : blkF s 0 < s.length) (h : s[blkF s 0] = 35) (hl : lineAt (s.drop (blkF s 0)) = .inl none) (hT : TabAt w) (hM : MaxAt w) (hE : ErrType w) :
   Calls Tryz.prog 29 #[.pointer (some ⟨b, 0, none⟩), .string (B s), .int .i64 (fr : Int)] W fun e W' => PostL w b gm n1 e W' (pStep (.inl (m, p)) (fr, s)) := by
 have H35 := Lib.hid h
 have HL := Lib.hid hl
 clear h hl
 have LC := Lib.hid (fun (t : List UInt8) (ht : t.length <= 16777216) => lineE_l t W (hT.below P.raw.bw) (hM.below P.raw.bw) ht)
 have HET := Lib.hid (hE.below P.raw.bw)
 have PP := Lib.hid P
 have HX := Lib.hid hx
 have hwb := P.raw.bw.size
 clear P hT hM hE
 go_enter Tryz.func29, Tryz.ntmps29
 go_wp2_with fail
 go_loopw [7] (fun z wr => ∃ j : Nat, z = .int .i64 j /\ j <= s.length /\ Hid (blkF s 0 = blkF s j) /\ Hid (wr = W)) (fun z _ => s.length - (intOf z).toNat)
 case atStart => exact ⟨0, rfl, Nat.zero_le _, Lib.hid rfl, Lib.hid rfl⟩
 case round =>
   obtain ⟨j, rfl, hj, HS, HW⟩ := hrel
   obtain rfl : W = wr := HW.out.symm
   clear HW
   by_cases hlt : j < s.length
   case neg =>
     exact absurd HX.out (by rw [HS.out, blkF_end (by omega)]; omega)
   have e1 : decide ((j : Int) < (s.length : Int)) = true := decide_eq_true (by omega)
   have e1n : decide (j < s.length) = true := decide_eq_true hlt
   have j0 : 0 <= (j : Int) := by omega
   have j1 : (j : Int) < (s.length : Int) := by omega
   have hgj : s.getD j 0 = s[j] := by simp [List.getD, hlt]
   by_cases h32 : s[j] = 32
   · have e2 : ((s[j].toNat : Int) == 32) = true := byte_eq (d := 32) h32
     have HE : Hid (blkF s 0 = blkF s (j + 1)) := Lib.hid (by rw [HS.out, blkF_go hlt (by rw [hgj]; exact .inl h32)])
     clear h32 HS hgj HX
     go_wp2_with fail
     go_roundw
     case rel => exact ⟨j + 1, by go_num, hlt, HE, Lib.hid (by first | rfl | trivial)⟩
     case measure => simp [intOf]; omega
   have e2 : ((s[j].toNat : Int) == 32) = false := byte_ne (d := 32) h32
   by_cases h9 : s[j] = 9
   · have e3 : ((s[j].toNat : Int) == 9) = true := byte_eq (d := 9) h9
     have HE : Hid (blkF s 0 = blkF s (j + 1)) := Lib.hid (by rw [HS.out, blkF_go hlt (by rw [hgj]; exact .inr h9)])
     clear h32 h9 HS hgj HX
     go_wp2_with fail
     go_roundw
     case rel => exact ⟨j + 1, by go_num, hlt, HE, Lib.hid (by first | rfl | trivial)⟩
     case measure => simp [intOf]; omega
   have e3 : ((s[j].toNat : Int) == 9) = false := byte_ne (d := 9) h9
   have HB : Hid (blkF s 0 = j) := Lib.hid (by rw [HS.out, blkF_stop hlt (by rw [hgj]; exact fun h => h.elim h32 h9)])
   have e5 : ((j : Int) == (s.length : Int)) = false := beq_eq_false_iff_ne.2 (by omega)
   have j2 : (j : Int) <= (s.length : Int) := by omega
   have j3 : 0 <= (j : Int) + 1 := by omega
   have j4 : (j : Int) + 1 <= (s.length : Int) := by omega
   clear h32 h9 HS hgj
   have X1 : s[j] = 35 := by
     have := H35.out
     simp only [HB.out] at this
     exact this
   have e6 : ((s[j].toNat : Int) == 35) = true := byte_eq (d := 35) X1
   have LN0 := LC.out (s.drop j) (by simp; omega)
   have hl := HL.out
   rw [HB.out] at hl
   rw [hl] at LN0
   have HQ : Hid (pStep (.inl (m, p)) (fr, s) = .inl (m, p)) := Lib.hid ((pStep_of rfl).2.1 ((pl_hash' hlt HB.out X1 hl).2 none rfl))
   have LN0 := Lib.hid LN0
   clear X1 H35 HL hl LC
   go_wp2_with (first
     | (go_at_call 58; (with_reducible refine LN0.out.mono ?_); rintro e w3 ⟨rfl, hb3⟩; have B3 := Lib.hid hb3; have hs3 := hb3.size; clear hb3)
     | (go_at_call 59; (with_reducible refine (as_nil _ _).mono ?_); rintro e w6 ⟨rfl, hw6⟩; have P6 := Lib.hid (PP.out.below (hw6 ▸ ((B3.out.alloc hs3 (.cells #[.int .i64 noQuad.s.kind, .string (B noQuad.s.text), .string (B noQuad.s.type), .string (B noQuad.s.lang), .int .i64 noQuad.p.kind, .string (B noQuad.p.text), .string (B noQuad.p.type), .string (B noQuad.p.lang), .int .i64 noQuad.o.kind, .string (B noQuad.o.text), .string (B noQuad.o.type), .string (B noQuad.o.lang), .int .i64 noQuad.g.kind, .string (B noQuad.g.text), .string (B noQuad.g.type), .string (B noQuad.g.lang)] 56)).alloc (by simp; omega) (.cells #[.pointer none] 77)))); clear hw6))
   go_ret
   rw [HQ.out]
   exact ⟨rfl, A, vm, vp, P6.out⟩
theorem errCells {u : World} {eb : Nat} {x y : Value} (h0 : u.cell? ⟨eb, 0, none⟩ = some x) (h1 : u.cell? ⟨eb, 1, none⟩ = some y) (o1 o2 : Obj) : ((u.alloc o1).alloc o2).cell? ⟨eb, 0, none⟩ = some x /\ ((u.alloc o1).alloc o2).cell? ⟨eb, 1, none⟩ = some y /\ eb < u.heap.size := by
 have hl := World.block_lt_of_cell? _ _ h0
 have hb := ((Below.refl _ u).alloc (Nat.le_refl _) o1).alloc (by simp) o2
 exact ⟨(hb.cell (p := ⟨eb, 0, none⟩) hl).trans h0, (hb.cell (p := ⟨eb, 1, none⟩) hl).trans h1, hl⟩
set_option maxHeartbeats 3200000 in
theorem pline_hashbad (w : World) (b gm n1 fr : Nat) (s : List UInt8) (m p A : List QuadL) (vm vp : Value) (W : World) (P : PAt w b gm n1 m p A vm vp W) (hs : s.length <= 16777216) (hf : fr <= 67108864) (hx : blkF s 0 < s.length) (h : s[blkF s 0] = 35) (pe : Nat) (ce : Int) (hl : lineAt (s.drop (blkF s 0)) = .inr (pe, ce)) (hT : TabAt w) (hM : MaxAt w) (hE : ErrType w) :
   Calls Tryz.prog 29 #[.pointer (some ⟨b, 0, none⟩), .string (B s), .int .i64 (fr : Int)] W fun e W' => PostL w b gm n1 e W' (pStep (.inl (m, p)) (fr, s)) := by
 have H35 := Lib.hid h
 have HL := Lib.hid hl
 clear h hl
 have LC := Lib.hid (fun (t : List UInt8) (ht : t.length <= 16777216) => lineE_l t W (hT.below P.raw.bw) (hM.below P.raw.bw) ht)
 have HET := Lib.hid (hE.below P.raw.bw)
 have PP := Lib.hid P
 have HX := Lib.hid hx
 have hwb := P.raw.bw.size
 clear P hT hM hE
 go_enter Tryz.func29, Tryz.ntmps29
 go_wp2_with fail
 go_loopw [7] (fun z wr => ∃ j : Nat, z = .int .i64 j /\ j <= s.length /\ Hid (blkF s 0 = blkF s j) /\ Hid (wr = W)) (fun z _ => s.length - (intOf z).toNat)
 case atStart => exact ⟨0, rfl, Nat.zero_le _, Lib.hid rfl, Lib.hid rfl⟩
 case round =>
   obtain ⟨j, rfl, hj, HS, HW⟩ := hrel
   obtain rfl : W = wr := HW.out.symm
   clear HW
   by_cases hlt : j < s.length
   case neg =>
     exact absurd HX.out (by rw [HS.out, blkF_end (by omega)]; omega)
   have e1 : decide ((j : Int) < (s.length : Int)) = true := decide_eq_true (by omega)
   have e1n : decide (j < s.length) = true := decide_eq_true hlt
   have j0 : 0 <= (j : Int) := by omega
   have j1 : (j : Int) < (s.length : Int) := by omega
   have hgj : s.getD j 0 = s[j] := by simp [List.getD, hlt]
   by_cases h32 : s[j] = 32
   · have e2 : ((s[j].toNat : Int) == 32) = true := byte_eq (d := 32) h32
     have HE : Hid (blkF s 0 = blkF s (j + 1)) := Lib.hid (by rw [HS.out, blkF_go hlt (by rw [hgj]; exact .inl h32)])
     clear h32 HS hgj HX
     go_wp2_with fail
     go_roundw
     case rel => exact ⟨j + 1, by go_num, hlt, HE, Lib.hid (by first | rfl | trivial)⟩
     case measure => simp [intOf]; omega
   have e2 : ((s[j].toNat : Int) == 32) = false := byte_ne (d := 32) h32
   by_cases h9 : s[j] = 9
   · have e3 : ((s[j].toNat : Int) == 9) = true := byte_eq (d := 9) h9
     have HE : Hid (blkF s 0 = blkF s (j + 1)) := Lib.hid (by rw [HS.out, blkF_go hlt (by rw [hgj]; exact .inr h9)])
     clear h32 h9 HS hgj HX
     go_wp2_with fail
     go_roundw
     case rel => exact ⟨j + 1, by go_num, hlt, HE, Lib.hid (by first | rfl | trivial)⟩
     case measure => simp [intOf]; omega
   have e3 : ((s[j].toNat : Int) == 9) = false := byte_ne (d := 9) h9
   have HB : Hid (blkF s 0 = j) := Lib.hid (by rw [HS.out, blkF_stop hlt (by rw [hgj]; exact fun h => h.elim h32 h9)])
   have e5 : ((j : Int) == (s.length : Int)) = false := beq_eq_false_iff_ne.2 (by omega)
   have j2 : (j : Int) <= (s.length : Int) := by omega
   have j3 : 0 <= (j : Int) + 1 := by omega
   have j4 : (j : Int) + 1 <= (s.length : Int) := by omega
   clear h32 h9 HS hgj
   have X1 : s[j] = 35 := by
     have := H35.out
     simp only [HB.out] at this
     exact this
   have e6 : ((s[j].toNat : Int) == 35) = true := byte_eq (d := 35) X1
   have LN0 := LC.out (s.drop (j)) (by simp; omega)
   have hl := HL.out
   rw [HB.out] at hl
   rw [hl] at LN0
   have hpe := (lineAt_bad hl).1
   rw [List.length_drop] at hpe
   have HQ : Hid (pStep (.inl (m, p)) (fr, s) = .inr (fr + (j + pe), ce)) := Lib.hid ((pStep_of rfl).1 (j + pe, ce) ((pl_hash' hlt HB.out X1 hl).1 (pe, ce) rfl))
   have LN0 := Lib.hid LN0
   clear X1 H35 HL hl LC
   go_wp2_with (first
     | (go_at_call 58; (with_reducible refine LN0.out.mono ?_); rintro e w3 ⟨hx3, hb3⟩; have B3 := Lib.hid hb3; have hs3 := hb3.size; obtain ⟨eb, rfl, he⟩ := hx3; obtain ⟨eb2, heq, he0, he1⟩ := he; cases heq; have HE3 := Lib.hid (errCells he0 he1 (.cells #[.int .i64 noQuad.s.kind, .string (B noQuad.s.text), .string (B noQuad.s.type), .string (B noQuad.s.lang), .int .i64 noQuad.p.kind, .string (B noQuad.p.text), .string (B noQuad.p.type), .string (B noQuad.p.lang), .int .i64 noQuad.o.kind, .string (B noQuad.o.text), .string (B noQuad.o.type), .string (B noQuad.o.lang), .int .i64 noQuad.g.kind, .string (B noQuad.g.text), .string (B noQuad.g.type), .string (B noQuad.g.lang)] 56) (.cells #[.pointer none] 77)); clear he0 he1; clear hb3)
     | (go_at_call 59; have b5 := (B3.out.alloc hs3 (.cells #[.int .i64 noQuad.s.kind, .string (B noQuad.s.text), .string (B noQuad.s.type), .string (B noQuad.s.lang), .int .i64 noQuad.p.kind, .string (B noQuad.p.text), .string (B noQuad.p.type), .string (B noQuad.p.lang), .int .i64 noQuad.o.kind, .string (B noQuad.o.text), .string (B noQuad.o.type), .string (B noQuad.o.lang), .int .i64 noQuad.g.kind, .string (B noQuad.g.text), .string (B noQuad.g.type), .string (B noQuad.g.lang)] 56)).alloc (by simp; omega) (.cells #[.pointer none] 77); have AB := as_B ⟨eb, 0, none⟩ (w3.heap.size + 1) (.pointer none) ((w3.alloc (.cells #[.int .i64 noQuad.s.kind, .string (B noQuad.s.text), .string (B noQuad.s.type), .string (B noQuad.s.lang), .int .i64 noQuad.p.kind, .string (B noQuad.p.text), .string (B noQuad.p.type), .string (B noQuad.p.lang), .int .i64 noQuad.o.kind, .string (B noQuad.o.text), .string (B noQuad.o.type), .string (B noQuad.o.lang), .int .i64 noQuad.g.kind, .string (B noQuad.g.text), .string (B noQuad.g.type), .string (B noQuad.g.lang)] 56)).alloc (.cells #[.pointer none] 77)) (HET.out.below b5) (by rw [<- World.size_alloc w3 (.cells #[.int .i64 noQuad.s.kind, .string (B noQuad.s.text), .string (B noQuad.s.type), .string (B noQuad.s.lang), .int .i64 noQuad.p.kind, .string (B noQuad.p.text), .string (B noQuad.p.type), .string (B noQuad.p.lang), .int .i64 noQuad.o.kind, .string (B noQuad.o.text), .string (B noQuad.o.type), .string (B noQuad.o.lang), .int .i64 noQuad.g.kind, .string (B noQuad.g.text), .string (B noQuad.g.type), .string (B noQuad.g.lang)] 56), World.cell?_alloc_new]; rfl) (by rw [<- World.size_alloc w3 (.cells #[.int .i64 noQuad.s.kind, .string (B noQuad.s.text), .string (B noQuad.s.type), .string (B noQuad.s.lang), .int .i64 noQuad.p.kind, .string (B noQuad.p.text), .string (B noQuad.p.type), .string (B noQuad.p.lang), .int .i64 noQuad.o.kind, .string (B noQuad.o.text), .string (B noQuad.o.type), .string (B noQuad.o.lang), .int .i64 noQuad.g.kind, .string (B noQuad.g.text), .string (B noQuad.g.type), .string (B noQuad.g.lang)] 56)]; exact new_frozen (Below.refl _ (World.alloc _ _)) 0); (with_reducible refine AB.mono ?_); rintro e w6 ⟨rfl, hh⟩; have k0 := hh.1; have k1 := hh.cell (HE3.out.1) (Nat.ne_of_lt (by have := HE3.out.2.2; omega)); have k2 := hh.cell (HE3.out.2.1) (Nat.ne_of_lt (by have := HE3.out.2.2; omega)); have B6 := Lib.hid (b5.trans (hh.2.2.1.mono (by omega))); clear AB b5 hh))
   refine region_still 13 (by kernel_rfl) (by kernel_rfl) ?_; simp only [List.take_succ_cons, List.take_zero, List.drop_succ_cons, List.drop_zero]
   repeat still_step
   refine wpStill_nil ?_
   go_wp2_with fail
   go_ret
   rw [HQ.out]
   exact ⟨⟨_, rfl, errAt_new (u := w6.drew) (by omega)⟩, ((PP.out.raw.bw.trans (B6.out.mono hwb)).drew).alloc (by have := B6.out.size; show w.heap.size <= w6.heap.size; omega) _⟩
set_option maxHeartbeats 3200000 in
theorem pline_minusbad (w : World) (b gm n1 fr : Nat) (s : List UInt8) (m p A : List QuadL) (vm vp : Value) (W : World) (P : PAt w b gm n1 m p A vm vp W) (hs : s.length <= 16777216) (hf : fr <= 67108864) (hx : blkF s 0 < s.length) (h : s[blkF s 0] = 45) (pe : Nat) (ce : Int) (hl : lineAt (s.drop (blkF s 0 + 1)) = .inr (pe, ce)) (hT : TabAt w) (hM : MaxAt w) (hE : ErrType w) :
   Calls Tryz.prog 29 #[.pointer (some ⟨b, 0, none⟩), .string (B s), .int .i64 (fr : Int)] W fun e W' => PostL w b gm n1 e W' (pStep (.inl (m, p)) (fr, s)) := by
 have H35 := Lib.hid h
 have HL := Lib.hid hl
 clear h hl
 have LC := Lib.hid (fun (t : List UInt8) (ht : t.length <= 16777216) => lineE_l t W (hT.below P.raw.bw) (hM.below P.raw.bw) ht)
 have HET := Lib.hid (hE.below P.raw.bw)
 have PP := Lib.hid P
 have HX := Lib.hid hx
 have hwb := P.raw.bw.size
 clear P hT hM hE
 go_enter Tryz.func29, Tryz.ntmps29
 go_wp2_with fail
 go_loopw [7] (fun z wr => ∃ j : Nat, z = .int .i64 j /\ j <= s.length /\ Hid (blkF s 0 = blkF s j) /\ Hid (wr = W)) (fun z _ => s.length - (intOf z).toNat)
 case atStart => exact ⟨0, rfl, Nat.zero_le _, Lib.hid rfl, Lib.hid rfl⟩
 case round =>
   obtain ⟨j, rfl, hj, HS, HW⟩ := hrel
   obtain rfl : W = wr := HW.out.symm
   clear HW
   by_cases hlt : j < s.length
   case neg =>
     exact absurd HX.out (by rw [HS.out, blkF_end (by omega)]; omega)
   have e1 : decide ((j : Int) < (s.length : Int)) = true := decide_eq_true (by omega)
   have e1n : decide (j < s.length) = true := decide_eq_true hlt
   have j0 : 0 <= (j : Int) := by omega
   have j1 : (j : Int) < (s.length : Int) := by omega
   have hgj : s.getD j 0 = s[j] := by simp [List.getD, hlt]
   by_cases h32 : s[j] = 32
   · have e2 : ((s[j].toNat : Int) == 32) = true := byte_eq (d := 32) h32
     have HE : Hid (blkF s 0 = blkF s (j + 1)) := Lib.hid (by rw [HS.out, blkF_go hlt (by rw [hgj]; exact .inl h32)])
     clear h32 HS hgj HX
     go_wp2_with fail
     go_roundw
     case rel => exact ⟨j + 1, by go_num, hlt, HE, Lib.hid (by first | rfl | trivial)⟩
     case measure => simp [intOf]; omega
   have e2 : ((s[j].toNat : Int) == 32) = false := byte_ne (d := 32) h32
   by_cases h9 : s[j] = 9
   · have e3 : ((s[j].toNat : Int) == 9) = true := byte_eq (d := 9) h9
     have HE : Hid (blkF s 0 = blkF s (j + 1)) := Lib.hid (by rw [HS.out, blkF_go hlt (by rw [hgj]; exact .inr h9)])
     clear h32 h9 HS hgj HX
     go_wp2_with fail
     go_roundw
     case rel => exact ⟨j + 1, by go_num, hlt, HE, Lib.hid (by first | rfl | trivial)⟩
     case measure => simp [intOf]; omega
   have e3 : ((s[j].toNat : Int) == 9) = false := byte_ne (d := 9) h9
   have HB : Hid (blkF s 0 = j) := Lib.hid (by rw [HS.out, blkF_stop hlt (by rw [hgj]; exact fun h => h.elim h32 h9)])
   have e5 : ((j : Int) == (s.length : Int)) = false := beq_eq_false_iff_ne.2 (by omega)
   have j2 : (j : Int) <= (s.length : Int) := by omega
   have j3 : 0 <= (j : Int) + 1 := by omega
   have j4 : (j : Int) + 1 <= (s.length : Int) := by omega
   clear h32 h9 HS hgj
   have X1 : s[j] = 45 := by
     have := H35.out
     simp only [HB.out] at this
     exact this
   have e6 : ((s[j].toNat : Int) == 35) = false := byte_ne (d := 35) (by rw [X1]; decide)
   have e7 : ((s[j].toNat : Int) == 45) = true := byte_eq (d := 45) X1
   have LN0 := LC.out (s.drop (j + 1)) (by simp; omega)
   have hl := HL.out
   rw [HB.out] at hl
   rw [hl] at LN0
   have hpe := (lineAt_bad hl).1
   rw [List.length_drop] at hpe
   have HQ : Hid (pStep (.inl (m, p)) (fr, s) = .inr (fr + (j + 1 + pe), ce)) := Lib.hid ((pStep_of rfl).1 (j + 1 + pe, ce) ((pl_sign' hlt HB.out (.inl X1) hl).1 (pe, ce) rfl))
   have LN0 := Lib.hid LN0
   clear X1 H35 HL hl LC
   go_wp2_with (first
     | (go_at_call 58; (with_reducible refine LN0.out.mono ?_); rintro e w3 ⟨hx3, hb3⟩; have B3 := Lib.hid hb3; have hs3 := hb3.size; obtain ⟨eb, rfl, he⟩ := hx3; obtain ⟨eb2, heq, he0, he1⟩ := he; cases heq; have HE3 := Lib.hid (errCells he0 he1 (.cells #[.int .i64 noQuad.s.kind, .string (B noQuad.s.text), .string (B noQuad.s.type), .string (B noQuad.s.lang), .int .i64 noQuad.p.kind, .string (B noQuad.p.text), .string (B noQuad.p.type), .string (B noQuad.p.lang), .int .i64 noQuad.o.kind, .string (B noQuad.o.text), .string (B noQuad.o.type), .string (B noQuad.o.lang), .int .i64 noQuad.g.kind, .string (B noQuad.g.text), .string (B noQuad.g.type), .string (B noQuad.g.lang)] 56) (.cells #[.pointer none] 77)); clear he0 he1; clear hb3)
     | (go_at_call 59; have b5 := (B3.out.alloc hs3 (.cells #[.int .i64 noQuad.s.kind, .string (B noQuad.s.text), .string (B noQuad.s.type), .string (B noQuad.s.lang), .int .i64 noQuad.p.kind, .string (B noQuad.p.text), .string (B noQuad.p.type), .string (B noQuad.p.lang), .int .i64 noQuad.o.kind, .string (B noQuad.o.text), .string (B noQuad.o.type), .string (B noQuad.o.lang), .int .i64 noQuad.g.kind, .string (B noQuad.g.text), .string (B noQuad.g.type), .string (B noQuad.g.lang)] 56)).alloc (by simp; omega) (.cells #[.pointer none] 77); have AB := as_B ⟨eb, 0, none⟩ (w3.heap.size + 1) (.pointer none) ((w3.alloc (.cells #[.int .i64 noQuad.s.kind, .string (B noQuad.s.text), .string (B noQuad.s.type), .string (B noQuad.s.lang), .int .i64 noQuad.p.kind, .string (B noQuad.p.text), .string (B noQuad.p.type), .string (B noQuad.p.lang), .int .i64 noQuad.o.kind, .string (B noQuad.o.text), .string (B noQuad.o.type), .string (B noQuad.o.lang), .int .i64 noQuad.g.kind, .string (B noQuad.g.text), .string (B noQuad.g.type), .string (B noQuad.g.lang)] 56)).alloc (.cells #[.pointer none] 77)) (HET.out.below b5) (by rw [<- World.size_alloc w3 (.cells #[.int .i64 noQuad.s.kind, .string (B noQuad.s.text), .string (B noQuad.s.type), .string (B noQuad.s.lang), .int .i64 noQuad.p.kind, .string (B noQuad.p.text), .string (B noQuad.p.type), .string (B noQuad.p.lang), .int .i64 noQuad.o.kind, .string (B noQuad.o.text), .string (B noQuad.o.type), .string (B noQuad.o.lang), .int .i64 noQuad.g.kind, .string (B noQuad.g.text), .string (B noQuad.g.type), .string (B noQuad.g.lang)] 56), World.cell?_alloc_new]; rfl) (by rw [<- World.size_alloc w3 (.cells #[.int .i64 noQuad.s.kind, .string (B noQuad.s.text), .string (B noQuad.s.type), .string (B noQuad.s.lang), .int .i64 noQuad.p.kind, .string (B noQuad.p.text), .string (B noQuad.p.type), .string (B noQuad.p.lang), .int .i64 noQuad.o.kind, .string (B noQuad.o.text), .string (B noQuad.o.type), .string (B noQuad.o.lang), .int .i64 noQuad.g.kind, .string (B noQuad.g.text), .string (B noQuad.g.type), .string (B noQuad.g.lang)] 56)]; exact new_frozen (Below.refl _ (World.alloc _ _)) 0); (with_reducible refine AB.mono ?_); rintro e w6 ⟨rfl, hh⟩; have k0 := hh.1; have k1 := hh.cell (HE3.out.1) (Nat.ne_of_lt (by have := HE3.out.2.2; omega)); have k2 := hh.cell (HE3.out.2.1) (Nat.ne_of_lt (by have := HE3.out.2.2; omega)); have B6 := Lib.hid (b5.trans (hh.2.2.1.mono (by omega))); clear AB b5 hh))
   refine region_still 13 (by kernel_rfl) (by kernel_rfl) ?_; simp only [List.take_succ_cons, List.take_zero, List.drop_succ_cons, List.drop_zero]
   repeat still_step
   refine wpStill_nil ?_
   go_wp2_with fail
   go_ret
   rw [HQ.out]
   exact ⟨⟨_, rfl, errAt_new (u := w6.drew) (by omega)⟩, ((PP.out.raw.bw.trans (B6.out.mono hwb)).drew).alloc (by have := B6.out.size; show w.heap.size <= w6.heap.size; omega) _⟩
set_option maxHeartbeats 1600000 in
theorem pline_minusnone (w : World) (b gm n1 fr : Nat) (s : List UInt8) (m p A : List QuadL) (vm vp : Value) (W : World) (P : PAt w b gm n1 m p A vm vp W) (hs : s.length <= 16777216) (hf : fr <= 67108864) (hx : blkF s 0 < s.length) (h : s[blkF s 0] = 45) (hl : lineAt (s.drop (blkF s 0 + 1)) = .inl none) (hT : TabAt w) (hM : MaxAt w) (hE : ErrType w) :
   Calls Tryz.prog 29 #[.pointer (some ⟨b, 0, none⟩), .string (B s), .int .i64 (fr : Int)] W fun e W' => PostL w b gm n1 e W' (pStep (.inl (m, p)) (fr, s)) := by
 have H35 := Lib.hid h
 have HL := Lib.hid hl
 clear h hl
 have LC := Lib.hid (fun (t : List UInt8) (ht : t.length <= 16777216) => lineE_l t W (hT.below P.raw.bw) (hM.below P.raw.bw) ht)
 have HET := Lib.hid (hE.below P.raw.bw)
 have PP := Lib.hid P
 have HX := Lib.hid hx
 have hwb := P.raw.bw.size
 clear P hT hM hE
 go_enter Tryz.func29, Tryz.ntmps29
 go_wp2_with fail
 go_loopw [7] (fun z wr => ∃ j : Nat, z = .int .i64 j /\ j <= s.length /\ Hid (blkF s 0 = blkF s j) /\ Hid (wr = W)) (fun z _ => s.length - (intOf z).toNat)
 case atStart => exact ⟨0, rfl, Nat.zero_le _, Lib.hid rfl, Lib.hid rfl⟩
 case round =>
   obtain ⟨j, rfl, hj, HS, HW⟩ := hrel
   obtain rfl : W = wr := HW.out.symm
   clear HW
   by_cases hlt : j < s.length
   case neg =>
     exact absurd HX.out (by rw [HS.out, blkF_end (by omega)]; omega)
   have e1 : decide ((j : Int) < (s.length : Int)) = true := decide_eq_true (by omega)
   have e1n : decide (j < s.length) = true := decide_eq_true hlt
   have j0 : 0 <= (j : Int) := by omega
   have j1 : (j : Int) < (s.length : Int) := by omega
   have hgj : s.getD j 0 = s[j] := by simp [List.getD, hlt]
   by_cases h32 : s[j] = 32
   · have e2 : ((s[j].toNat : Int) == 32) = true := byte_eq (d := 32) h32
     have HE : Hid (blkF s 0 = blkF s (j + 1)) := Lib.hid (by rw [HS.out, blkF_go hlt (by rw [hgj]; exact .inl h32)])
     clear h32 HS hgj HX
     go_wp2_with fail
     go_roundw
     case rel => exact ⟨j + 1, by go_num, hlt, HE, Lib.hid (by first | rfl | trivial)⟩
     case measure => simp [intOf]; omega
   have e2 : ((s[j].toNat : Int) == 32) = false := byte_ne (d := 32) h32
   by_cases h9 : s[j] = 9
   · have e3 : ((s[j].toNat : Int) == 9) = true := byte_eq (d := 9) h9
     have HE : Hid (blkF s 0 = blkF s (j + 1)) := Lib.hid (by rw [HS.out, blkF_go hlt (by rw [hgj]; exact .inr h9)])
     clear h32 h9 HS hgj HX
     go_wp2_with fail
     go_roundw
     case rel => exact ⟨j + 1, by go_num, hlt, HE, Lib.hid (by first | rfl | trivial)⟩
     case measure => simp [intOf]; omega
   have e3 : ((s[j].toNat : Int) == 9) = false := byte_ne (d := 9) h9
   have HB : Hid (blkF s 0 = j) := Lib.hid (by rw [HS.out, blkF_stop hlt (by rw [hgj]; exact fun h => h.elim h32 h9)])
   have e5 : ((j : Int) == (s.length : Int)) = false := beq_eq_false_iff_ne.2 (by omega)
   have j2 : (j : Int) <= (s.length : Int) := by omega
   have j3 : 0 <= (j : Int) + 1 := by omega
   have j4 : (j : Int) + 1 <= (s.length : Int) := by omega
   clear h32 h9 HS hgj
   have X1 : s[j] = 45 := by
     have := H35.out
     simp only [HB.out] at this
     exact this
   have e6 : ((s[j].toNat : Int) == 35) = false := byte_ne (d := 35) (by rw [X1]; decide)
   have e7 : ((s[j].toNat : Int) == 45) = true := byte_eq (d := 45) X1
   have LN0 := LC.out (s.drop (j + 1)) (by simp; omega)
   have hl := HL.out
   rw [HB.out] at hl
   rw [hl] at LN0
   have HQ : Hid (pStep (.inl (m, p)) (fr, s) = .inr (fr + s.length, 90)) := Lib.hid ((pStep_of rfl).1 (s.length, 90) ((pl_sign' hlt HB.out (.inl X1) hl).2.1 rfl))
   have e9 : ((j : Int) + 1 == (j : Int)) = false := beq_eq_false_iff_ne.2 (by omega)
   have LN0 := Lib.hid LN0
   clear X1 H35 HL hl LC
   go_wp2_with (first
     | (go_at_call 58; (with_reducible refine LN0.out.mono ?_); rintro e w3 ⟨rfl, hb3⟩; have B3 := Lib.hid hb3; have hs3 := hb3.size; clear hb3)
     | (go_at_call 59; (with_reducible refine (as_nil _ _).mono ?_); rintro e w6 ⟨rfl, hw6⟩; have P6 := Lib.hid (PP.out.below (hw6 ▸ ((B3.out.alloc hs3 (.cells #[.int .i64 noQuad.s.kind, .string (B noQuad.s.text), .string (B noQuad.s.type), .string (B noQuad.s.lang), .int .i64 noQuad.p.kind, .string (B noQuad.p.text), .string (B noQuad.p.type), .string (B noQuad.p.lang), .int .i64 noQuad.o.kind, .string (B noQuad.o.text), .string (B noQuad.o.type), .string (B noQuad.o.lang), .int .i64 noQuad.g.kind, .string (B noQuad.g.text), .string (B noQuad.g.type), .string (B noQuad.g.lang)] 56)).alloc (by simp; omega) (.cells #[.pointer none] 77)))); clear hw6)
     | (go_at_call 57; (with_reducible refine (patchAt_l _ _ _).mono ?_); rintro e w7 ⟨rfl, rfl⟩))
   go_ret
   rw [HQ.out]
   exact ⟨⟨_, rfl, errAt_new (by omega)⟩, P6.out.raw.bw.alloc P6.out.raw.bw.size _⟩
set_option maxHeartbeats 3200000 in
theorem pline_plusbad (w : World) (b gm n1 fr : Nat) (s : List UInt8) (m p A : List QuadL) (vm vp : Value) (W : World) (P : PAt w b gm n1 m p A vm vp W) (hs : s.length <= 16777216) (hf : fr <= 67108864) (hx : blkF s 0 < s.length) (h : s[blkF s 0] = 43) (pe : Nat) (ce : Int) (hl : lineAt (s.drop (blkF s 0 + 1)) = .inr (pe, ce)) (hT : TabAt w) (hM : MaxAt w) (hE : ErrType w) :
   Calls Tryz.prog 29 #[.pointer (some ⟨b, 0, none⟩), .string (B s), .int .i64 (fr : Int)] W fun e W' => PostL w b gm n1 e W' (pStep (.inl (m, p)) (fr, s)) := by
 have H35 := Lib.hid h
 have HL := Lib.hid hl
 clear h hl
 have LC := Lib.hid (fun (t : List UInt8) (ht : t.length <= 16777216) => lineE_l t W (hT.below P.raw.bw) (hM.below P.raw.bw) ht)
 have HET := Lib.hid (hE.below P.raw.bw)
 have PP := Lib.hid P
 have HX := Lib.hid hx
 have hwb := P.raw.bw.size
 clear P hT hM hE
 go_enter Tryz.func29, Tryz.ntmps29
 go_wp2_with fail
 go_loopw [7] (fun z wr => ∃ j : Nat, z = .int .i64 j /\ j <= s.length /\ Hid (blkF s 0 = blkF s j) /\ Hid (wr = W)) (fun z _ => s.length - (intOf z).toNat)
 case atStart => exact ⟨0, rfl, Nat.zero_le _, Lib.hid rfl, Lib.hid rfl⟩
 case round =>
   obtain ⟨j, rfl, hj, HS, HW⟩ := hrel
   obtain rfl : W = wr := HW.out.symm
   clear HW
   by_cases hlt : j < s.length
   case neg =>
     exact absurd HX.out (by rw [HS.out, blkF_end (by omega)]; omega)
   have e1 : decide ((j : Int) < (s.length : Int)) = true := decide_eq_true (by omega)
   have e1n : decide (j < s.length) = true := decide_eq_true hlt
   have j0 : 0 <= (j : Int) := by omega
   have j1 : (j : Int) < (s.length : Int) := by omega
   have hgj : s.getD j 0 = s[j] := by simp [List.getD, hlt]
   by_cases h32 : s[j] = 32
   · have e2 : ((s[j].toNat : Int) == 32) = true := byte_eq (d := 32) h32
     have HE : Hid (blkF s 0 = blkF s (j + 1)) := Lib.hid (by rw [HS.out, blkF_go hlt (by rw [hgj]; exact .inl h32)])
     clear h32 HS hgj HX
     go_wp2_with fail
     go_roundw
     case rel => exact ⟨j + 1, by go_num, hlt, HE, Lib.hid (by first | rfl | trivial)⟩
     case measure => simp [intOf]; omega
   have e2 : ((s[j].toNat : Int) == 32) = false := byte_ne (d := 32) h32
   by_cases h9 : s[j] = 9
   · have e3 : ((s[j].toNat : Int) == 9) = true := byte_eq (d := 9) h9
     have HE : Hid (blkF s 0 = blkF s (j + 1)) := Lib.hid (by rw [HS.out, blkF_go hlt (by rw [hgj]; exact .inr h9)])
     clear h32 h9 HS hgj HX
     go_wp2_with fail
     go_roundw
     case rel => exact ⟨j + 1, by go_num, hlt, HE, Lib.hid (by first | rfl | trivial)⟩
     case measure => simp [intOf]; omega
   have e3 : ((s[j].toNat : Int) == 9) = false := byte_ne (d := 9) h9
   have HB : Hid (blkF s 0 = j) := Lib.hid (by rw [HS.out, blkF_stop hlt (by rw [hgj]; exact fun h => h.elim h32 h9)])
   have e5 : ((j : Int) == (s.length : Int)) = false := beq_eq_false_iff_ne.2 (by omega)
   have j2 : (j : Int) <= (s.length : Int) := by omega
   have j3 : 0 <= (j : Int) + 1 := by omega
   have j4 : (j : Int) + 1 <= (s.length : Int) := by omega
   clear h32 h9 HS hgj
   have X1 : s[j] = 43 := by
     have := H35.out
     simp only [HB.out] at this
     exact this
   have e6 : ((s[j].toNat : Int) == 35) = false := byte_ne (d := 35) (by rw [X1]; decide)
   have e7 : ((s[j].toNat : Int) == 45) = false := byte_ne (d := 45) (by rw [X1]; decide)
   have e8 : ((s[j].toNat : Int) == 43) = true := byte_eq (d := 43) X1
   have LN0 := LC.out (s.drop (j + 1)) (by simp; omega)
   have hl := HL.out
   rw [HB.out] at hl
   rw [hl] at LN0
   have hpe := (lineAt_bad hl).1
   rw [List.length_drop] at hpe
   have HQ : Hid (pStep (.inl (m, p)) (fr, s) = .inr (fr + (j + 1 + pe), ce)) := Lib.hid ((pStep_of rfl).1 (j + 1 + pe, ce) ((pl_sign' hlt HB.out (.inr X1) hl).1 (pe, ce) rfl))
   have LN0 := Lib.hid LN0
   clear X1 H35 HL hl LC
   go_wp2_with (first
     | (go_at_call 58; (with_reducible refine LN0.out.mono ?_); rintro e w3 ⟨hx3, hb3⟩; have B3 := Lib.hid hb3; have hs3 := hb3.size; obtain ⟨eb, rfl, he⟩ := hx3; obtain ⟨eb2, heq, he0, he1⟩ := he; cases heq; have HE3 := Lib.hid (errCells he0 he1 (.cells #[.int .i64 noQuad.s.kind, .string (B noQuad.s.text), .string (B noQuad.s.type), .string (B noQuad.s.lang), .int .i64 noQuad.p.kind, .string (B noQuad.p.text), .string (B noQuad.p.type), .string (B noQuad.p.lang), .int .i64 noQuad.o.kind, .string (B noQuad.o.text), .string (B noQuad.o.type), .string (B noQuad.o.lang), .int .i64 noQuad.g.kind, .string (B noQuad.g.text), .string (B noQuad.g.type), .string (B noQuad.g.lang)] 56) (.cells #[.pointer none] 77)); clear he0 he1; clear hb3)
     | (go_at_call 59; have b5 := (B3.out.alloc hs3 (.cells #[.int .i64 noQuad.s.kind, .string (B noQuad.s.text), .string (B noQuad.s.type), .string (B noQuad.s.lang), .int .i64 noQuad.p.kind, .string (B noQuad.p.text), .string (B noQuad.p.type), .string (B noQuad.p.lang), .int .i64 noQuad.o.kind, .string (B noQuad.o.text), .string (B noQuad.o.type), .string (B noQuad.o.lang), .int .i64 noQuad.g.kind, .string (B noQuad.g.text), .string (B noQuad.g.type), .string (B noQuad.g.lang)] 56)).alloc (by simp; omega) (.cells #[.pointer none] 77); have AB := as_B ⟨eb, 0, none⟩ (w3.heap.size + 1) (.pointer none) ((w3.alloc (.cells #[.int .i64 noQuad.s.kind, .string (B noQuad.s.text), .string (B noQuad.s.type), .string (B noQuad.s.lang), .int .i64 noQuad.p.kind, .string (B noQuad.p.text), .string (B noQuad.p.type), .string (B noQuad.p.lang), .int .i64 noQuad.o.kind, .string (B noQuad.o.text), .string (B noQuad.o.type), .string (B noQuad.o.lang), .int .i64 noQuad.g.kind, .string (B noQuad.g.text), .string (B noQuad.g.type), .string (B noQuad.g.lang)] 56)).alloc (.cells #[.pointer none] 77)) (HET.out.below b5) (by rw [<- World.size_alloc w3 (.cells #[.int .i64 noQuad.s.kind, .string (B noQuad.s.text), .string (B noQuad.s.type), .string (B noQuad.s.lang), .int .i64 noQuad.p.kind, .string (B noQuad.p.text), .string (B noQuad.p.type), .string (B noQuad.p.lang), .int .i64 noQuad.o.kind, .string (B noQuad.o.text), .string (B noQuad.o.type), .string (B noQuad.o.lang), .int .i64 noQuad.g.kind, .string (B noQuad.g.text), .string (B noQuad.g.type), .string (B noQuad.g.lang)] 56), World.cell?_alloc_new]; rfl) (by rw [<- World.size_alloc w3 (.cells #[.int .i64 noQuad.s.kind, .string (B noQuad.s.text), .string (B noQuad.s.type), .string (B noQuad.s.lang), .int .i64 noQuad.p.kind, .string (B noQuad.p.text), .string (B noQuad.p.type), .string (B noQuad.p.lang), .int .i64 noQuad.o.kind, .string (B noQuad.o.text), .string (B noQuad.o.type), .string (B noQuad.o.lang), .int .i64 noQuad.g.kind, .string (B noQuad.g.text), .string (B noQuad.g.type), .string (B noQuad.g.lang)] 56)]; exact new_frozen (Below.refl _ (World.alloc _ _)) 0); (with_reducible refine AB.mono ?_); rintro e w6 ⟨rfl, hh⟩; have k0 := hh.1; have k1 := hh.cell (HE3.out.1) (Nat.ne_of_lt (by have := HE3.out.2.2; omega)); have k2 := hh.cell (HE3.out.2.1) (Nat.ne_of_lt (by have := HE3.out.2.2; omega)); have B6 := Lib.hid (b5.trans (hh.2.2.1.mono (by omega))); clear AB b5 hh))
   refine region_still 13 (by kernel_rfl) (by kernel_rfl) ?_; simp only [List.take_succ_cons, List.take_zero, List.drop_succ_cons, List.drop_zero]
   repeat still_step
   refine wpStill_nil ?_
   go_wp2_with fail
   go_ret
   rw [HQ.out]
   exact ⟨⟨_, rfl, errAt_new (u := w6.drew) (by omega)⟩, ((PP.out.raw.bw.trans (B6.out.mono hwb)).drew).alloc (by have := B6.out.size; show w.heap.size <= w6.heap.size; omega) _⟩
set_option maxHeartbeats 1600000 in
theorem pline_plusnone (w : World) (b gm n1 fr : Nat) (s : List UInt8) (m p A : List QuadL) (vm vp : Value) (W : World) (P : PAt w b gm n1 m p A vm vp W) (hs : s.length <= 16777216) (hf : fr <= 67108864) (hx : blkF s 0 < s.length) (h : s[blkF s 0] = 43) (hl : lineAt (s.drop (blkF s 0 + 1)) = .inl none) (hT : TabAt w) (hM : MaxAt w) (hE : ErrType w) :
   Calls Tryz.prog 29 #[.pointer (some ⟨b, 0, none⟩), .string (B s), .int .i64 (fr : Int)] W fun e W' => PostL w b gm n1 e W' (pStep (.inl (m, p)) (fr, s)) := by
 have H35 := Lib.hid h
 have HL := Lib.hid hl
 clear h hl
 have LC := Lib.hid (fun (t : List UInt8) (ht : t.length <= 16777216) => lineE_l t W (hT.below P.raw.bw) (hM.below P.raw.bw) ht)
 have HET := Lib.hid (hE.below P.raw.bw)
 have PP := Lib.hid P
 have HX := Lib.hid hx
 have hwb := P.raw.bw.size
 clear P hT hM hE
 go_enter Tryz.func29, Tryz.ntmps29
 go_wp2_with fail
 go_loopw [7] (fun z wr => ∃ j : Nat, z = .int .i64 j /\ j <= s.length /\ Hid (blkF s 0 = blkF s j) /\ Hid (wr = W)) (fun z _ => s.length - (intOf z).toNat)
 case atStart => exact ⟨0, rfl, Nat.zero_le _, Lib.hid rfl, Lib.hid rfl⟩
 case round =>
   obtain ⟨j, rfl, hj, HS, HW⟩ := hrel
   obtain rfl : W = wr := HW.out.symm
   clear HW
   by_cases hlt : j < s.length
   case neg =>
     exact absurd HX.out (by rw [HS.out, blkF_end (by omega)]; omega)
   have e1 : decide ((j : Int) < (s.length : Int)) = true := decide_eq_true (by omega)
   have e1n : decide (j < s.length) = true := decide_eq_true hlt
   have j0 : 0 <= (j : Int) := by omega
   have j1 : (j : Int) < (s.length : Int) := by omega
   have hgj : s.getD j 0 = s[j] := by simp [List.getD, hlt]
   by_cases h32 : s[j] = 32
   · have e2 : ((s[j].toNat : Int) == 32) = true := byte_eq (d := 32) h32
     have HE : Hid (blkF s 0 = blkF s (j + 1)) := Lib.hid (by rw [HS.out, blkF_go hlt (by rw [hgj]; exact .inl h32)])
     clear h32 HS hgj HX
     go_wp2_with fail
     go_roundw
     case rel => exact ⟨j + 1, by go_num, hlt, HE, Lib.hid (by first | rfl | trivial)⟩
     case measure => simp [intOf]; omega
   have e2 : ((s[j].toNat : Int) == 32) = false := byte_ne (d := 32) h32
   by_cases h9 : s[j] = 9
   · have e3 : ((s[j].toNat : Int) == 9) = true := byte_eq (d := 9) h9
     have HE : Hid (blkF s 0 = blkF s (j + 1)) := Lib.hid (by rw [HS.out, blkF_go hlt (by rw [hgj]; exact .inr h9)])
     clear h32 h9 HS hgj HX
     go_wp2_with fail
     go_roundw
     case rel => exact ⟨j + 1, by go_num, hlt, HE, Lib.hid (by first | rfl | trivial)⟩
     case measure => simp [intOf]; omega
   have e3 : ((s[j].toNat : Int) == 9) = false := byte_ne (d := 9) h9
   have HB : Hid (blkF s 0 = j) := Lib.hid (by rw [HS.out, blkF_stop hlt (by rw [hgj]; exact fun h => h.elim h32 h9)])
   have e5 : ((j : Int) == (s.length : Int)) = false := beq_eq_false_iff_ne.2 (by omega)
   have j2 : (j : Int) <= (s.length : Int) := by omega
   have j3 : 0 <= (j : Int) + 1 := by omega
   have j4 : (j : Int) + 1 <= (s.length : Int) := by omega
   clear h32 h9 HS hgj
   have X1 : s[j] = 43 := by
     have := H35.out
     simp only [HB.out] at this
     exact this
   have e6 : ((s[j].toNat : Int) == 35) = false := byte_ne (d := 35) (by rw [X1]; decide)
   have e7 : ((s[j].toNat : Int) == 45) = false := byte_ne (d := 45) (by rw [X1]; decide)
   have e8 : ((s[j].toNat : Int) == 43) = true := byte_eq (d := 43) X1
   have LN0 := LC.out (s.drop (j + 1)) (by simp; omega)
   have hl := HL.out
   rw [HB.out] at hl
   rw [hl] at LN0
   have HQ : Hid (pStep (.inl (m, p)) (fr, s) = .inr (fr + s.length, 90)) := Lib.hid ((pStep_of rfl).1 (s.length, 90) ((pl_sign' hlt HB.out (.inr X1) hl).2.1 rfl))
   have e9 : ((j : Int) + 1 == (j : Int)) = false := beq_eq_false_iff_ne.2 (by omega)
   have LN0 := Lib.hid LN0
   clear X1 H35 HL hl LC
   go_wp2_with (first
     | (go_at_call 58; (with_reducible refine LN0.out.mono ?_); rintro e w3 ⟨rfl, hb3⟩; have B3 := Lib.hid hb3; have hs3 := hb3.size; clear hb3)
     | (go_at_call 59; (with_reducible refine (as_nil _ _).mono ?_); rintro e w6 ⟨rfl, hw6⟩; have P6 := Lib.hid (PP.out.below (hw6 ▸ ((B3.out.alloc hs3 (.cells #[.int .i64 noQuad.s.kind, .string (B noQuad.s.text), .string (B noQuad.s.type), .string (B noQuad.s.lang), .int .i64 noQuad.p.kind, .string (B noQuad.p.text), .string (B noQuad.p.type), .string (B noQuad.p.lang), .int .i64 noQuad.o.kind, .string (B noQuad.o.text), .string (B noQuad.o.type), .string (B noQuad.o.lang), .int .i64 noQuad.g.kind, .string (B noQuad.g.text), .string (B noQuad.g.type), .string (B noQuad.g.lang)] 56)).alloc (by simp; omega) (.cells #[.pointer none] 77)))); clear hw6)
     | (go_at_call 57; (with_reducible refine (patchAt_l _ _ _).mono ?_); rintro e w7 ⟨rfl, rfl⟩))
   go_ret
   rw [HQ.out]
   exact ⟨⟨_, rfl, errAt_new (by omega)⟩, P6.out.raw.bw.alloc P6.out.raw.bw.size _⟩
end Go.Proofs.YtmnigckpejcaeaaGreatDoor
