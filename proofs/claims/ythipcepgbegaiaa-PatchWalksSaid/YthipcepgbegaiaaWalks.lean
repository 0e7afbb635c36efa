/-
  tesseralaw23.PatchWalks: one pass through patch.Each. By an AI agent.
-/
import Derived.Test.YthipcepgbegaiaaNeqQ
namespace Go.Proofs.Ythipcepgbegaiaa
open Go.RowKit Go.Shelf
set_option maxRecDepth 100000
attribute [local go_sem] Oper.semAt_some
def firstRange : Code → Option Code
  | .rangeFunc g ps a b => some (.rangeFunc g ps a b)
  | .loop c => firstRange c
  | .seq a b => match firstRange a with
    | some c => some c
    | none => firstRange b
  | .block _ c => firstRange c
  | .scope c => firstRange c
  | .cond _ a b => match firstRange a with
    | some c => some c
    | none => firstRange b
  | _ => none
def rangeParts : Code → Option (Code × Code)
  | .rangeFunc _ _ a b => some (a, b)
  | _ => none
noncomputable def walkCode : Code := ((Try.f3.body.bind firstRange).getD .skip)
noncomputable def walkBody : Code := ((rangeParts walkCode).getD (.skip, .skip)).2
/-- a block of cells beside the one that is written -/
structure PassAt (W0 : World) (p : PatchL) (mv pv : Value) (n₀ g3 g4 g5 g6 g7 g8 g9 g10 gE : Nat) (st inn : Int) (kk : Nat) : Prop where
  b3 : BoxN W0 g3 24 #[mv, pv]
  b4 : Boxed W0 g4 3 (.int .i64 st)
  b5 : Boxed W0 g5 3 (.int .i64 inn)
  b6 : Boxed W0 g6 4 (.bool false)
  b7 : Boxed W0 g7 26 (.func (.func 5) #[] #[.pointer (some ⟨gE, 0, none⟩)])
  b8 : Boxed W0 g8 3 (.int .i64 ((p.minus.length : Int) + (p.plus.length : Int)))
  b9 : Boxed W0 g9 3 (.int .i64 (kk : Int))
  bE : BoxN W0 gE 24 #[mv, pv]
  lt : n₀ ≤ g3 ∧ g3 < g10 ∧ n₀ ≤ g4 ∧ g4 < g10 ∧ g5 < g10 ∧ n₀ ≤ g6 ∧ g6 < g10 ∧ g7 < g10 ∧ g8 < g10 ∧ g9 < g10 ∧ gE < g10 ∧ g10 < W0.heap.size
  view : ∀ W', Below n₀ W0 W' → QView W' mv p.minus ∧ QView W' pv p.plus
  len : p.minus.length ≤ 1152921504606846976 ∧ p.plus.length ≤ 1152921504606846976
  st : -9223372036854775808 ≤ st ∧ st ≤ 9223372036854775807
/-- between two rounds -/
def WI (W0 : World) (p : PatchL) (g10 : Nat) (pre : List (Bool × QuadL)) (W : World) : Prop := (Boxed W g10 3 (.int .i64 (pre.length : Int)) ∧ pre <+: walkL p) ∧ Below g10 W0 W
/-- a round has left -/
def WX (W0 : World) (p : PatchL) (g10 : Nat) (st : Int) (kk : Nat) (c : Code) (pre : List (Bool × QuadL)) (W : World) : Prop :=
  (c = .exit 2 ∧ kk = 0 ∧ ((pre.length : Int) == wrap64 (st + 1)) = true ∧ Boxed W g10 3 (.int .i64 (pre.length : Int)) ∧ Below g10 W0 W) ∨ (c = .ret ∧ ¬ pre <+: walkL p)
set_option maxHeartbeats 8000000 in
theorem body_w1 (n : Nat) (hn : 6 ≤ n) (W0 : World) (p : PatchL) (a0 a1 : Option Addr) (c0 c1 n₀ g3 g4 g5 g6 g7 g8 g9 g10 gE : Nat) (st inn : Int) (kk : Nat) (PA : PassAt W0 p (.slice a0 p.minus.length c0) (.slice a1 p.plus.length c1) n₀ g3 g4 g5 g6 g7 g8 g9 g10 gE st inn kk)
    (y0 y1 y2 y11 y12 y13 y14 y15 y16 y17 y18 y19 y20 y21 y22 y23 y24 y25 y26 y27 y28 y30 y31 y32 y33 y34 y35 y36 y37 y38 y39 y40 y41 y42 y43 y44 y45 y46 y47 y48 y49 y50 y51 y52 y53 y54 y55 y56 y57 y58 y59 y60 y61 y62 y63 y64 y65 y66 y67 y68 y69 y70 y71 y72 y73 y74 y75 y76 y77 y78 y79 y80 y81 y82 y83 y84 y85 y86 y87 y88 y89 y90 y91 y92 y93 y94 y95 y96 y97 y98 y99 y100 y101 y102 y103 y104 y105 y106 y107 : Value) (l : Nat) (pre : List (Bool × QuadL)) (xq : QuadL) (W : World) (Bx : Nat) (hW0 : W0.heap.size ≤ W.heap.size) (hl : W0.heap.size ≤ l) (hr : ∃ r, W.heap[l]? = some (.loop r)) (hI : WI W0 p g10 pre W) (hX : BoxN W Bx 31 #[.int .i64 xq.s.kind, .string (B xq.s.text), .string (B xq.s.type), .string (B xq.s.lang), .int .i64 xq.p.kind, .string (B xq.p.text), .string (B xq.p.type), .string (B xq.p.lang), .int .i64 xq.o.kind, .string (B xq.o.text), .string (B xq.o.type), .string (B xq.o.lang), .int .i64 xq.g.kind, .string (B xq.g.text), .string (B xq.g.type), .string (B xq.g.lang)]) (hBx : g10 < Bx) (hlt : pre.length < (walkL p).length) (hs : pre.length < p.minus.length) (hnp : Hid (¬ (pre ++ [(true, xq)]) <+: walkL p)) :
    walkBody.wpIn (Fence.wide.inRound l) (n - 1 - 1) Try.prog (ownPostG W0.heap.size (Below n₀) (WI W0 p g10) (WX W0 p g10 st kk) (pre ++ [(true, xq)]) W) { tmps := #[y0, y1, y2, .pointer (some ⟨g3, 0, none⟩), .pointer (some ⟨g4, 0, none⟩), .pointer (some ⟨g5, 0, none⟩), .pointer (some ⟨g6, 0, none⟩), .pointer (some ⟨g7, 0, none⟩), .pointer (some ⟨g8, 0, none⟩), .pointer (some ⟨g9, 0, none⟩), .pointer (some ⟨g10, 0, none⟩), .bool true, .pointer (some ⟨Bx, 0, none⟩), y13, y14, y15, y16, y17, y18, y19, y20, y21, y22, y23, y24, y25, y26, y27, y28, .func (.func 5) #[] #[.pointer (some ⟨gE, 0, none⟩)], .bool true, .agg #[.int .i64 xq.s.kind, .string (B xq.s.text), .string (B xq.s.type), .string (B xq.s.lang), .int .i64 xq.p.kind, .string (B xq.p.text), .string (B xq.p.type), .string (B xq.p.lang), .int .i64 xq.o.kind, .string (B xq.o.text), .string (B xq.o.type), .string (B xq.o.lang), .int .i64 xq.g.kind, .string (B xq.g.text), .string (B xq.g.type), .string (B xq.g.lang)], y32, y33, y34, y35, y36, y37, y38, y39, y40, y41, y42, y43, y44, y45, y46, y47, y48, y49, y50, y51, y52, y53, y54, y55, y56, y57, y58, y59, y60, y61, y62, y63, y64, y65, y66, y67, y68, y69, y70, y71, y72, y73, y74, y75, y76, y77, y78, y79, y80, y81, y82, y83, y84, y85, y86, y87, y88, y89, y90, y91, y92, y93, y94, y95, y96, y97, y98, y99, y100, y101, y102, y103, y104, y105, y106, y107], defers := [] } W := by
  obtain ⟨⟨hb10, hpre⟩, hB⟩ := hI
  have hlen := walkL_len p
  obtain ⟨hn0, h3, h4n, h4, h5, h6n, h6, h7, h8, h9, hE, h10⟩ := PA.lt
  have L1 := PA.len.1
  have L2 := PA.len.2
  obtain ⟨m, em⟩ : ∃ m, pre.length = m := ⟨_, rfl⟩
  simp only [em] at hlt hb10 hs
  have c10 := hb10.cell
  have f10 := hb10.frozen
  have c8 := (boxed_below PA.b8 hB h8).cell
  have c30 := (PA.b3.below hB h3).cell 0 _ rfl
  have c31 := (PA.b3.below hB h3).cell 1 _ rfl
  have c6 := (boxed_below PA.b6 hB h6).cell
  have f6 := (boxed_below PA.b6 hB h6).frozen
  have c5 := (boxed_below PA.b5 hB h5).cell
  have c9 := (boxed_below PA.b9 hB h9).cell
  have c4 := (boxed_below PA.b4 hB h4).cell
  have c7 := (boxed_below PA.b7 hB h7).cell
  have ne9 : g9 ≠ g10 := by omega
  have l7 : g7 < W.heap.size := by omega
  have l8 : g8 < W.heap.size := by omega
  have l9 : g9 < W.heap.size := by omega
  have l4 : g4 < W.heap.size := by omega
  have l10 : g10 < W.heap.size := by omega
  have ne8 : g8 ≠ g10 := by omega
  have ne4 : g4 ≠ g10 := by omega
  have ne7 : g7 ≠ g10 := by omega
  have h34 : decide ((p.minus.length : Int) + (p.plus.length : Int) ≤ (m : Int)) = false := decide_eq_false (by omega)
  have h41 : decide ((p.minus.length : Int) ≤ (m : Int)) = false := decide_eq_false (by omega)
  have h41n : decide (p.minus.length ≤ m) = false := decide_eq_false (by omega)
  have PAH := Lib.hid PA
  have HBB := Lib.hid hB
  have HPRE := Lib.hid hpre
  have HEM := Lib.hid em
  have HB10 := Lib.hid hb10
  clear PA hB hpre em hb10 hX hs
  have HL := Lib.hid hlen
  have HN := Lib.hid (show n₀ ≤ g10 by omega)
  have H10 := Lib.hid h10
  have HG := Lib.hid (show g10 + 1 ≤ W.heap.size by omega)
  have HE := Lib.hid hE
  have H8 := Lib.hid h8
  have H9 := Lib.hid h9
  have H4 := Lib.hid h4
  have HW0 := Lib.hid hW0
  clear hlen
  conv => arg 4; whnf
  gi_wp2_with fail
  refine region_quiet_round_lit rfl (by kernel_rfl) (by kernel_rfl) (by kernel_rfl) ?_
  repeat (gi_big_quiet_step (fail))
  refine wpQuietIn_nil ?_
  intro _ hw'
  obtain ⟨nq, hw''⟩ := hw'
  subst hw''
  gi_wp2_with fail
  exact ⟨(keepsFrom_drewN W nq).trans ((KeepsOthers.setCell _ _ _).from _), .inr ⟨rfl, hnp.out⟩⟩
set_option maxHeartbeats 8000000 in
theorem body_w3 (n : Nat) (hn : 6 ≤ n) (W0 : World) (p : PatchL) (a0 a1 : Option Addr) (c0 c1 n₀ g3 g4 g5 g6 g7 g8 g9 g10 gE : Nat) (st inn : Int) (kk : Nat) (PA : PassAt W0 p (.slice a0 p.minus.length c0) (.slice a1 p.plus.length c1) n₀ g3 g4 g5 g6 g7 g8 g9 g10 gE st inn kk)
    (y0 y1 y2 y11 y12 y13 y14 y15 y16 y17 y18 y19 y20 y21 y22 y23 y24 y25 y26 y27 y28 y30 y31 y32 y33 y34 y35 y36 y37 y38 y39 y40 y41 y42 y43 y44 y45 y46 y47 y48 y49 y50 y51 y52 y53 y54 y55 y56 y57 y58 y59 y60 y61 y62 y63 y64 y65 y66 y67 y68 y69 y70 y71 y72 y73 y74 y75 y76 y77 y78 y79 y80 y81 y82 y83 y84 y85 y86 y87 y88 y89 y90 y91 y92 y93 y94 y95 y96 y97 y98 y99 y100 y101 y102 y103 y104 y105 y106 y107 : Value) (l : Nat) (pre : List (Bool × QuadL)) (xq : QuadL) (W : World) (Bx : Nat) (hW0 : W0.heap.size ≤ W.heap.size) (hl : W0.heap.size ≤ l) (hr : ∃ r, W.heap[l]? = some (.loop r)) (hI : WI W0 p g10 pre W) (hX : BoxN W Bx 31 #[.int .i64 xq.s.kind, .string (B xq.s.text), .string (B xq.s.type), .string (B xq.s.lang), .int .i64 xq.p.kind, .string (B xq.p.text), .string (B xq.p.type), .string (B xq.p.lang), .int .i64 xq.o.kind, .string (B xq.o.text), .string (B xq.o.type), .string (B xq.o.lang), .int .i64 xq.g.kind, .string (B xq.g.text), .string (B xq.g.type), .string (B xq.g.lang)]) (hBx : g10 < Bx) (hlt : pre.length < (walkL p).length) (hs : p.minus.length ≤ pre.length) (hnp : Hid (¬ (pre ++ [(false, xq)]) <+: walkL p)) :
    walkBody.wpIn (Fence.wide.inRound l) (n - 1 - 1) Try.prog (ownPostG W0.heap.size (Below n₀) (WI W0 p g10) (WX W0 p g10 st kk) (pre ++ [(false, xq)]) W) { tmps := #[y0, y1, y2, .pointer (some ⟨g3, 0, none⟩), .pointer (some ⟨g4, 0, none⟩), .pointer (some ⟨g5, 0, none⟩), .pointer (some ⟨g6, 0, none⟩), .pointer (some ⟨g7, 0, none⟩), .pointer (some ⟨g8, 0, none⟩), .pointer (some ⟨g9, 0, none⟩), .pointer (some ⟨g10, 0, none⟩), .bool false, .pointer (some ⟨Bx, 0, none⟩), y13, y14, y15, y16, y17, y18, y19, y20, y21, y22, y23, y24, y25, y26, y27, y28, .func (.func 5) #[] #[.pointer (some ⟨gE, 0, none⟩)], .bool false, .agg #[.int .i64 xq.s.kind, .string (B xq.s.text), .string (B xq.s.type), .string (B xq.s.lang), .int .i64 xq.p.kind, .string (B xq.p.text), .string (B xq.p.type), .string (B xq.p.lang), .int .i64 xq.o.kind, .string (B xq.o.text), .string (B xq.o.type), .string (B xq.o.lang), .int .i64 xq.g.kind, .string (B xq.g.text), .string (B xq.g.type), .string (B xq.g.lang)], y32, y33, y34, y35, y36, y37, y38, y39, y40, y41, y42, y43, y44, y45, y46, y47, y48, y49, y50, y51, y52, y53, y54, y55, y56, y57, y58, y59, y60, y61, y62, y63, y64, y65, y66, y67, y68, y69, y70, y71, y72, y73, y74, y75, y76, y77, y78, y79, y80, y81, y82, y83, y84, y85, y86, y87, y88, y89, y90, y91, y92, y93, y94, y95, y96, y97, y98, y99, y100, y101, y102, y103, y104, y105, y106, y107], defers := [] } W := by
  obtain ⟨⟨hb10, hpre⟩, hB⟩ := hI
  have hlen := walkL_len p
  obtain ⟨hn0, h3, h4n, h4, h5, h6n, h6, h7, h8, h9, hE, h10⟩ := PA.lt
  have L1 := PA.len.1
  have L2 := PA.len.2
  obtain ⟨m, em⟩ : ∃ m, pre.length = m := ⟨_, rfl⟩
  simp only [em] at hlt hb10 hs
  have c10 := hb10.cell
  have f10 := hb10.frozen
  have c8 := (boxed_below PA.b8 hB h8).cell
  have c30 := (PA.b3.below hB h3).cell 0 _ rfl
  have c31 := (PA.b3.below hB h3).cell 1 _ rfl
  have c6 := (boxed_below PA.b6 hB h6).cell
  have f6 := (boxed_below PA.b6 hB h6).frozen
  have c5 := (boxed_below PA.b5 hB h5).cell
  have c9 := (boxed_below PA.b9 hB h9).cell
  have c4 := (boxed_below PA.b4 hB h4).cell
  have c7 := (boxed_below PA.b7 hB h7).cell
  have ne9 : g9 ≠ g10 := by omega
  have l7 : g7 < W.heap.size := by omega
  have l8 : g8 < W.heap.size := by omega
  have l9 : g9 < W.heap.size := by omega
  have l4 : g4 < W.heap.size := by omega
  have l10 : g10 < W.heap.size := by omega
  have ne8 : g8 ≠ g10 := by omega
  have ne4 : g4 ≠ g10 := by omega
  have ne7 : g7 ≠ g10 := by omega
  have h34 : decide ((p.minus.length : Int) + (p.plus.length : Int) ≤ (m : Int)) = false := decide_eq_false (by omega)
  have h41 : decide ((p.minus.length : Int) ≤ (m : Int)) = true := decide_eq_true (by omega)
  have h41n : decide (p.minus.length ≤ m) = true := decide_eq_true (by omega)
  have PAH := Lib.hid PA
  have HBB := Lib.hid hB
  have HPRE := Lib.hid hpre
  have HEM := Lib.hid em
  have HB10 := Lib.hid hb10
  clear PA hB hpre em hb10 hX hs
  have HL := Lib.hid hlen
  have HN := Lib.hid (show n₀ ≤ g10 by omega)
  have H10 := Lib.hid h10
  have HG := Lib.hid (show g10 + 1 ≤ W.heap.size by omega)
  have HE := Lib.hid hE
  have H8 := Lib.hid h8
  have H9 := Lib.hid h9
  have H4 := Lib.hid h4
  have HW0 := Lib.hid hW0
  clear hlen
  conv => arg 4; whnf
  gi_wp2_with fail
  refine region_quiet_round_lit rfl (by kernel_rfl) (by kernel_rfl) (by kernel_rfl) ?_
  repeat (gi_big_quiet_step (fail))
  refine wpQuietIn_nil ?_
  intro _ hw'
  obtain ⟨nq, hw''⟩ := hw'
  subst hw''
  gi_wp2_with fail
  exact ⟨(keepsFrom_drewN W nq).trans ((KeepsOthers.setCell _ _ _).from _), .inr ⟨rfl, hnp.out⟩⟩
set_option maxHeartbeats 8000000 in
theorem body_w2 (n : Nat) (hn : 6 ≤ n) (W0 : World) (p : PatchL) (a0 a1 : Option Addr) (c0 c1 n₀ g3 g4 g5 g6 g7 g8 g9 g10 gE : Nat) (st inn : Int) (kk : Nat) (PA : PassAt W0 p (.slice a0 p.minus.length c0) (.slice a1 p.plus.length c1) n₀ g3 g4 g5 g6 g7 g8 g9 g10 gE st inn kk)
    (y0 y1 y2 y11 y12 y13 y14 y15 y16 y17 y18 y19 y20 y21 y22 y23 y24 y25 y26 y27 y28 y30 y31 y32 y33 y34 y35 y36 y37 y38 y39 y40 y41 y42 y43 y44 y45 y46 y47 y48 y49 y50 y51 y52 y53 y54 y55 y56 y57 y58 y59 y60 y61 y62 y63 y64 y65 y66 y67 y68 y69 y70 y71 y72 y73 y74 y75 y76 y77 y78 y79 y80 y81 y82 y83 y84 y85 y86 y87 y88 y89 y90 y91 y92 y93 y94 y95 y96 y97 y98 y99 y100 y101 y102 y103 y104 y105 y106 y107 : Value) (l : Nat) (pre : List (Bool × QuadL)) (xq : QuadL) (W : World) (Bx : Nat) (hW0 : W0.heap.size ≤ W.heap.size) (hl : W0.heap.size ≤ l) (hr : ∃ r, W.heap[l]? = some (.loop r)) (hI : WI W0 p g10 pre W) (hX : BoxN W Bx 31 #[.int .i64 xq.s.kind, .string (B xq.s.text), .string (B xq.s.type), .string (B xq.s.lang), .int .i64 xq.p.kind, .string (B xq.p.text), .string (B xq.p.type), .string (B xq.p.lang), .int .i64 xq.o.kind, .string (B xq.o.text), .string (B xq.o.type), .string (B xq.o.lang), .int .i64 xq.g.kind, .string (B xq.g.text), .string (B xq.g.type), .string (B xq.g.lang)]) (hBx : g10 < Bx) (hlt : pre.length < (walkL p).length) (hs : pre.length < p.minus.length) (hk0 : pre.length < p.minus.length) (hq : xq ≠ p.minus[pre.length]'hk0) (hnp : Hid (¬ (pre ++ [(false, xq)]) <+: walkL p)) :
    walkBody.wpIn (Fence.wide.inRound l) (n - 1 - 1) Try.prog (ownPostG W0.heap.size (Below n₀) (WI W0 p g10) (WX W0 p g10 st kk) (pre ++ [(false, xq)]) W) { tmps := #[y0, y1, y2, .pointer (some ⟨g3, 0, none⟩), .pointer (some ⟨g4, 0, none⟩), .pointer (some ⟨g5, 0, none⟩), .pointer (some ⟨g6, 0, none⟩), .pointer (some ⟨g7, 0, none⟩), .pointer (some ⟨g8, 0, none⟩), .pointer (some ⟨g9, 0, none⟩), .pointer (some ⟨g10, 0, none⟩), .bool false, .pointer (some ⟨Bx, 0, none⟩), y13, y14, y15, y16, y17, y18, y19, y20, y21, y22, y23, y24, y25, y26, y27, y28, .func (.func 5) #[] #[.pointer (some ⟨gE, 0, none⟩)], .bool false, .agg #[.int .i64 xq.s.kind, .string (B xq.s.text), .string (B xq.s.type), .string (B xq.s.lang), .int .i64 xq.p.kind, .string (B xq.p.text), .string (B xq.p.type), .string (B xq.p.lang), .int .i64 xq.o.kind, .string (B xq.o.text), .string (B xq.o.type), .string (B xq.o.lang), .int .i64 xq.g.kind, .string (B xq.g.text), .string (B xq.g.type), .string (B xq.g.lang)], y32, y33, y34, y35, y36, y37, y38, y39, y40, y41, y42, y43, y44, y45, y46, y47, y48, y49, y50, y51, y52, y53, y54, y55, y56, y57, y58, y59, y60, y61, y62, y63, y64, y65, y66, y67, y68, y69, y70, y71, y72, y73, y74, y75, y76, y77, y78, y79, y80, y81, y82, y83, y84, y85, y86, y87, y88, y89, y90, y91, y92, y93, y94, y95, y96, y97, y98, y99, y100, y101, y102, y103, y104, y105, y106, y107], defers := [] } W := by
  obtain ⟨⟨hb10, hpre⟩, hB⟩ := hI
  have hlen := walkL_len p
  obtain ⟨hn0, h3, h4n, h4, h5, h6n, h6, h7, h8, h9, hE, h10⟩ := PA.lt
  have L1 := PA.len.1
  have L2 := PA.len.2
  obtain ⟨m, em⟩ : ∃ m, pre.length = m := ⟨_, rfl⟩
  simp only [em] at hlt hb10 hs hq
  have c10 := hb10.cell
  have f10 := hb10.frozen
  have c8 := (boxed_below PA.b8 hB h8).cell
  have c30 := (PA.b3.below hB h3).cell 0 _ rfl
  have c31 := (PA.b3.below hB h3).cell 1 _ rfl
  have c6 := (boxed_below PA.b6 hB h6).cell
  have f6 := (boxed_below PA.b6 hB h6).frozen
  have c5 := (boxed_below PA.b5 hB h5).cell
  have c9 := (boxed_below PA.b9 hB h9).cell
  have c4 := (boxed_below PA.b4 hB h4).cell
  have c7 := (boxed_below PA.b7 hB h7).cell
  have ne9 : g9 ≠ g10 := by omega
  have l7 : g7 < W.heap.size := by omega
  have l8 : g8 < W.heap.size := by omega
  have l9 : g9 < W.heap.size := by omega
  have l4 : g4 < W.heap.size := by omega
  have l10 : g10 < W.heap.size := by omega
  have ne8 : g8 ≠ g10 := by omega
  have ne4 : g4 ≠ g10 := by omega
  have ne7 : g7 ≠ g10 := by omega
  have h34 : decide ((p.minus.length : Int) + (p.plus.length : Int) ≤ (m : Int)) = false := decide_eq_false (by omega)
  have h41 : decide ((p.minus.length : Int) ≤ (m : Int)) = false := decide_eq_false (by omega)
  have h41n : decide (p.minus.length ≤ m) = false := decide_eq_false (by omega)
  obtain ⟨_, _, hee, _, hqa⟩ := (PA.view W (hB.mono (by omega))).1
  cases hee
  obtain ⟨b, o, rfl⟩ := hqa.place (by omega)
  have hk : m < p.minus.length := by omega
  have r1 := hqa.get hk
  obtain ⟨y, hy⟩ : ∃ y, p.minus[m] = y := ⟨_, rfl⟩
  rw [hy] at r1 hq
  obtain ⟨d0, d1, d2, d3, d4, d5, d6, d7, d8, d9, d10, d11, d12, d13, d14, d15⟩ := cells16 r1
  have e0 := hX.cell 0 _ rfl
  have e1 := hX.cell 1 _ rfl
  have e2 := hX.cell 2 _ rfl
  have e3 := hX.cell 3 _ rfl
  have e4 := hX.cell 4 _ rfl
  have e5 := hX.cell 5 _ rfl
  have e6 := hX.cell 6 _ rfl
  have e7 := hX.cell 7 _ rfl
  have e8 := hX.cell 8 _ rfl
  have e9 := hX.cell 9 _ rfl
  have e10 := hX.cell 10 _ rfl
  have e11 := hX.cell 11 _ rfl
  have e12 := hX.cell 12 _ rfl
  have e13 := hX.cell 13 _ rfl
  have e14 := hX.cell 14 _ rfl
  have e15 := hX.cell 15 _ rfl
  have NE := fun u => neq_q xq y u
  rw [decide_eq_false hq] at NE
  simp only [Bool.not_false] at NE
  dsimp only [qvE] at NE
  have PAH := Lib.hid PA
  have HBB := Lib.hid hB
  have HPRE := Lib.hid hpre
  have HEM := Lib.hid em
  have HB10 := Lib.hid hb10
  have hm0 : (0 : Int) ≤ (m : Int) := by omega
  clear r1 hy hqa PA hB hpre em hb10 hX hs
  have HL := Lib.hid hlen
  have HN := Lib.hid (show n₀ ≤ g10 by omega)
  have H10 := Lib.hid h10
  have HG := Lib.hid (show g10 + 1 ≤ W.heap.size by omega)
  have HE := Lib.hid hE
  have H8 := Lib.hid h8
  have H9 := Lib.hid h9
  have H4 := Lib.hid h4
  have HW0 := Lib.hid hW0
  clear hlen
  conv => arg 4; whnf
  gi_wp2_with fail
  refine region_quiet_round_lit rfl (by kernel_rfl) (by kernel_rfl) (by kernel_rfl) ?_
  repeat (gi_big_quiet_step (fail))
  refine wpQuietIn_nil ?_
  intro _ hw'
  obtain ⟨nq, hw''⟩ := hw'
  subst hw''
  gi_wp2_with fail
  exact ⟨(keepsFrom_drewN W nq).trans ((KeepsOthers.setCell _ _ _).from _), .inr ⟨rfl, hnp.out⟩⟩
set_option maxHeartbeats 8000000 in
theorem body_w4 (n : Nat) (hn : 6 ≤ n) (W0 : World) (p : PatchL) (a0 a1 : Option Addr) (c0 c1 n₀ g3 g4 g5 g6 g7 g8 g9 g10 gE : Nat) (st inn : Int) (kk : Nat) (PA : PassAt W0 p (.slice a0 p.minus.length c0) (.slice a1 p.plus.length c1) n₀ g3 g4 g5 g6 g7 g8 g9 g10 gE st inn kk)
    (y0 y1 y2 y11 y12 y13 y14 y15 y16 y17 y18 y19 y20 y21 y22 y23 y24 y25 y26 y27 y28 y30 y31 y32 y33 y34 y35 y36 y37 y38 y39 y40 y41 y42 y43 y44 y45 y46 y47 y48 y49 y50 y51 y52 y53 y54 y55 y56 y57 y58 y59 y60 y61 y62 y63 y64 y65 y66 y67 y68 y69 y70 y71 y72 y73 y74 y75 y76 y77 y78 y79 y80 y81 y82 y83 y84 y85 y86 y87 y88 y89 y90 y91 y92 y93 y94 y95 y96 y97 y98 y99 y100 y101 y102 y103 y104 y105 y106 y107 : Value) (l : Nat) (pre : List (Bool × QuadL)) (xq : QuadL) (W : World) (Bx : Nat) (hW0 : W0.heap.size ≤ W.heap.size) (hl : W0.heap.size ≤ l) (hr : ∃ r, W.heap[l]? = some (.loop r)) (hI : WI W0 p g10 pre W) (hX : BoxN W Bx 31 #[.int .i64 xq.s.kind, .string (B xq.s.text), .string (B xq.s.type), .string (B xq.s.lang), .int .i64 xq.p.kind, .string (B xq.p.text), .string (B xq.p.type), .string (B xq.p.lang), .int .i64 xq.o.kind, .string (B xq.o.text), .string (B xq.o.type), .string (B xq.o.lang), .int .i64 xq.g.kind, .string (B xq.g.text), .string (B xq.g.type), .string (B xq.g.lang)]) (hBx : g10 < Bx) (hlt : pre.length < (walkL p).length) (hs : p.minus.length ≤ pre.length) (hk0 : pre.length - p.minus.length < p.plus.length) (hq : xq ≠ p.plus[pre.length - p.minus.length]'hk0) (hnp : Hid (¬ (pre ++ [(true, xq)]) <+: walkL p)) :
    walkBody.wpIn (Fence.wide.inRound l) (n - 1 - 1) Try.prog (ownPostG W0.heap.size (Below n₀) (WI W0 p g10) (WX W0 p g10 st kk) (pre ++ [(true, xq)]) W) { tmps := #[y0, y1, y2, .pointer (some ⟨g3, 0, none⟩), .pointer (some ⟨g4, 0, none⟩), .pointer (some ⟨g5, 0, none⟩), .pointer (some ⟨g6, 0, none⟩), .pointer (some ⟨g7, 0, none⟩), .pointer (some ⟨g8, 0, none⟩), .pointer (some ⟨g9, 0, none⟩), .pointer (some ⟨g10, 0, none⟩), .bool true, .pointer (some ⟨Bx, 0, none⟩), y13, y14, y15, y16, y17, y18, y19, y20, y21, y22, y23, y24, y25, y26, y27, y28, .func (.func 5) #[] #[.pointer (some ⟨gE, 0, none⟩)], .bool true, .agg #[.int .i64 xq.s.kind, .string (B xq.s.text), .string (B xq.s.type), .string (B xq.s.lang), .int .i64 xq.p.kind, .string (B xq.p.text), .string (B xq.p.type), .string (B xq.p.lang), .int .i64 xq.o.kind, .string (B xq.o.text), .string (B xq.o.type), .string (B xq.o.lang), .int .i64 xq.g.kind, .string (B xq.g.text), .string (B xq.g.type), .string (B xq.g.lang)], y32, y33, y34, y35, y36, y37, y38, y39, y40, y41, y42, y43, y44, y45, y46, y47, y48, y49, y50, y51, y52, y53, y54, y55, y56, y57, y58, y59, y60, y61, y62, y63, y64, y65, y66, y67, y68, y69, y70, y71, y72, y73, y74, y75, y76, y77, y78, y79, y80, y81, y82, y83, y84, y85, y86, y87, y88, y89, y90, y91, y92, y93, y94, y95, y96, y97, y98, y99, y100, y101, y102, y103, y104, y105, y106, y107], defers := [] } W := by
  obtain ⟨⟨hb10, hpre⟩, hB⟩ := hI
  have hlen := walkL_len p
  obtain ⟨hn0, h3, h4n, h4, h5, h6n, h6, h7, h8, h9, hE, h10⟩ := PA.lt
  have L1 := PA.len.1
  have L2 := PA.len.2
  obtain ⟨m, em⟩ : ∃ m, pre.length = m := ⟨_, rfl⟩
  simp only [em] at hlt hb10 hs hq
  have c10 := hb10.cell
  have f10 := hb10.frozen
  have c8 := (boxed_below PA.b8 hB h8).cell
  have c30 := (PA.b3.below hB h3).cell 0 _ rfl
  have c31 := (PA.b3.below hB h3).cell 1 _ rfl
  have c6 := (boxed_below PA.b6 hB h6).cell
  have f6 := (boxed_below PA.b6 hB h6).frozen
  have c5 := (boxed_below PA.b5 hB h5).cell
  have c9 := (boxed_below PA.b9 hB h9).cell
  have c4 := (boxed_below PA.b4 hB h4).cell
  have c7 := (boxed_below PA.b7 hB h7).cell
  have ne9 : g9 ≠ g10 := by omega
  have l7 : g7 < W.heap.size := by omega
  have l8 : g8 < W.heap.size := by omega
  have l9 : g9 < W.heap.size := by omega
  have l4 : g4 < W.heap.size := by omega
  have l10 : g10 < W.heap.size := by omega
  have ne8 : g8 ≠ g10 := by omega
  have ne4 : g4 ≠ g10 := by omega
  have ne7 : g7 ≠ g10 := by omega
  have h34 : decide ((p.minus.length : Int) + (p.plus.length : Int) ≤ (m : Int)) = false := decide_eq_false (by omega)
  have h41 : decide ((p.minus.length : Int) ≤ (m : Int)) = true := decide_eq_true (by omega)
  have h41n : decide (p.minus.length ≤ m) = true := decide_eq_true (by omega)
  obtain ⟨_, _, hee, _, hqa⟩ := (PA.view W (hB.mono (by omega))).2
  cases hee
  obtain ⟨b, o, rfl⟩ := hqa.place (by omega)
  have hk : (m - p.minus.length) < p.plus.length := by omega
  have r1 := hqa.get hk
  obtain ⟨y, hy⟩ : ∃ y, p.plus[(m - p.minus.length)] = y := ⟨_, rfl⟩
  rw [hy] at r1 hq
  obtain ⟨k, ek⟩ : ∃ k, m - p.minus.length = k := ⟨_, rfl⟩
  rw [ek] at r1 hk
  have hwr : IntKind.i64.wrap ((m : Int) - (p.minus.length : Int)) = (k : Int) := by rw [IntKind.wrap_i64]; omega
  obtain ⟨d0, d1, d2, d3, d4, d5, d6, d7, d8, d9, d10, d11, d12, d13, d14, d15⟩ := cells16 r1
  have e0 := hX.cell 0 _ rfl
  have e1 := hX.cell 1 _ rfl
  have e2 := hX.cell 2 _ rfl
  have e3 := hX.cell 3 _ rfl
  have e4 := hX.cell 4 _ rfl
  have e5 := hX.cell 5 _ rfl
  have e6 := hX.cell 6 _ rfl
  have e7 := hX.cell 7 _ rfl
  have e8 := hX.cell 8 _ rfl
  have e9 := hX.cell 9 _ rfl
  have e10 := hX.cell 10 _ rfl
  have e11 := hX.cell 11 _ rfl
  have e12 := hX.cell 12 _ rfl
  have e13 := hX.cell 13 _ rfl
  have e14 := hX.cell 14 _ rfl
  have e15 := hX.cell 15 _ rfl
  have NE := fun u => neq_q xq y u
  rw [decide_eq_false hq] at NE
  simp only [Bool.not_false] at NE
  dsimp only [qvE] at NE
  have PAH := Lib.hid PA
  have HBB := Lib.hid hB
  have HPRE := Lib.hid hpre
  have HEM := Lib.hid em
  have HB10 := Lib.hid hb10
  have hm0 : (0 : Int) ≤ (k : Int) := by omega
  have hek := Lib.hid ek
  clear ek
  clear r1 hy hqa PA hB hpre em hb10 hX hs
  have HL := Lib.hid hlen
  have HN := Lib.hid (show n₀ ≤ g10 by omega)
  have H10 := Lib.hid h10
  have HG := Lib.hid (show g10 + 1 ≤ W.heap.size by omega)
  have HE := Lib.hid hE
  have H8 := Lib.hid h8
  have H9 := Lib.hid h9
  have H4 := Lib.hid h4
  have HW0 := Lib.hid hW0
  clear hlen
  conv => arg 4; whnf
  gi_wp2_with fail
  refine region_quiet_round_lit rfl (by kernel_rfl) (by kernel_rfl) (by kernel_rfl) ?_
  repeat (gi_big_quiet_step (fail))
  refine wpQuietIn_nil ?_
  intro _ hw'
  obtain ⟨nq, hw''⟩ := hw'
  subst hw''
  gi_wp2_with fail
  exact ⟨(keepsFrom_drewN W nq).trans ((KeepsOthers.setCell _ _ _).from _), .inr ⟨rfl, hnp.out⟩⟩
theorem prefix_snoc {α : Type} {L pre : List α} {x : α} (h : pre <+: L) (hx : L[pre.length]? = some x) : (pre ++ [x]) <+: L := by
  obtain ⟨t, rfl⟩ := h
  rw [List.getElem?_append_right (Nat.le_refl _), Nat.sub_self] at hx
  cases t with
  | nil => cases hx
  | cons y t =>
    cases hx
    exact ⟨t, by simp⟩
/-- a round's end: the place is counted on -/
theorem walk_end {W0 W W1 : World} {p : PatchL} {n₀ g10 m : Nat} {pre : List (Bool × QuadL)} {x : Bool × QuadL} (hem : pre.length = m) (hb : Boxed W1 g10 3 (.int .i64 (m : Int))) (hB : Below g10 W0 W) (h10 : g10 < W0.heap.size) (hn : n₀ ≤ g10)
    (hp : (pre ++ [x]) <+: walkL p) (hw : Below (g10 + 1) W W1) (hk : KeepsFrom W0.heap.size W W1) :
    KeepsFrom W0.heap.size W (W1.setCell ⟨g10, 0, none⟩ (.int .i64 ((m : Int) + 1))) ∧ Below n₀ W (W1.setCell ⟨g10, 0, none⟩ (.int .i64 ((m : Int) + 1))) ∧ WI W0 p g10 (pre ++ [x]) (W1.setCell ⟨g10, 0, none⟩ (.int .i64 ((m : Int) + 1))) := by
  have e : ((pre ++ [x]).length : Int) = (m : Int) + 1 := by simp [hem]
  refine ⟨hk.trans ((KeepsOthers.setCell _ _ _).from _), (hw.mono (by omega)).setCell (p := ⟨g10, 0, none⟩) hn _, ⟨?_, hp⟩, (hB.trans (hw.mono (by omega))).setCell (p := ⟨g10, 0, none⟩) (Nat.le_refl _) _⟩
  rw [e]
  exact hb.set _
theorem walk_break {W0 W W1 : World} {p : PatchL} {n₀ g10 m kk : Nat} {st : Int} {pre : List (Bool × QuadL)} {x : Bool × QuadL} (hem : pre.length = m) (hb : Boxed W1 g10 3 (.int .i64 (m : Int))) (hB : Below g10 W0 W) (h10 : g10 < W0.heap.size) (hn : n₀ ≤ g10)
    (hp : (pre ++ [x]) <+: walkL p) (hw : Below (g10 + 1) W W1) (hk : KeepsFrom W0.heap.size W W1) (h0 : kk = 0) (hs : ((m : Int) + 1 == wrap64 (st + 1)) = true) :
    KeepsFrom W0.heap.size W (W1.setCell ⟨g10, 0, none⟩ (.int .i64 ((m : Int) + 1))) ∧ WX W0 p g10 st kk (.exit 2) (pre ++ [x]) (W1.setCell ⟨g10, 0, none⟩ (.int .i64 ((m : Int) + 1))) := by
  obtain ⟨h1, _, h3, h4⟩ := walk_end hem hb hB h10 hn hp hw hk
  have e : ((pre ++ [x]).length : Int) = (m : Int) + 1 := by simp [hem]
  exact ⟨h1, .inl ⟨rfl, h0, by rw [e]; exact hs, h3.1, h4⟩⟩
set_option maxHeartbeats 8000000 in
theorem body_r1 (n : Nat) (hn : 6 ≤ n) (W0 : World) (p : PatchL) (a0 a1 : Option Addr) (c0 c1 n₀ g3 g4 g5 g6 g7 g8 g9 g10 gE : Nat) (st inn : Int) (kk : Nat) (PA : PassAt W0 p (.slice a0 p.minus.length c0) (.slice a1 p.plus.length c1) n₀ g3 g4 g5 g6 g7 g8 g9 g10 gE st inn kk)
    (y0 y1 y2 y11 y12 y13 y14 y15 y16 y17 y18 y19 y20 y21 y22 y23 y24 y25 y26 y27 y28 y30 y31 y32 y33 y34 y35 y36 y37 y38 y39 y40 y41 y42 y43 y44 y45 y46 y47 y48 y49 y50 y51 y52 y53 y54 y55 y56 y57 y58 y59 y60 y61 y62 y63 y64 y65 y66 y67 y68 y69 y70 y71 y72 y73 y74 y75 y76 y77 y78 y79 y80 y81 y82 y83 y84 y85 y86 y87 y88 y89 y90 y91 y92 y93 y94 y95 y96 y97 y98 y99 y100 y101 y102 y103 y104 y105 y106 y107 : Value) (l : Nat) (pre : List (Bool × QuadL)) (xq : QuadL) (W : World) (Bx : Nat) (hW0 : W0.heap.size ≤ W.heap.size) (hl : W0.heap.size ≤ l) (hr : ∃ r, W.heap[l]? = some (.loop r)) (hI : WI W0 p g10 pre W) (hX : BoxN W Bx 31 #[.int .i64 xq.s.kind, .string (B xq.s.text), .string (B xq.s.type), .string (B xq.s.lang), .int .i64 xq.p.kind, .string (B xq.p.text), .string (B xq.p.type), .string (B xq.p.lang), .int .i64 xq.o.kind, .string (B xq.o.text), .string (B xq.o.type), .string (B xq.o.lang), .int .i64 xq.g.kind, .string (B xq.g.text), .string (B xq.g.type), .string (B xq.g.lang)]) (hBx : g10 < Bx) (hlt : pre.length < (walkL p).length) (hs : pre.length < p.minus.length) (hk0 : pre.length < p.minus.length) (hq : xq = p.minus[pre.length]'hk0) (hnp : Hid ((pre ++ [(false, xq)]) <+: walkL p)) :
    walkBody.wpIn (Fence.wide.inRound l) (n - 1 - 1) Try.prog (ownPostG W0.heap.size (Below n₀) (WI W0 p g10) (WX W0 p g10 st kk) (pre ++ [(false, xq)]) W) { tmps := #[y0, y1, y2, .pointer (some ⟨g3, 0, none⟩), .pointer (some ⟨g4, 0, none⟩), .pointer (some ⟨g5, 0, none⟩), .pointer (some ⟨g6, 0, none⟩), .pointer (some ⟨g7, 0, none⟩), .pointer (some ⟨g8, 0, none⟩), .pointer (some ⟨g9, 0, none⟩), .pointer (some ⟨g10, 0, none⟩), .bool false, .pointer (some ⟨Bx, 0, none⟩), y13, y14, y15, y16, y17, y18, y19, y20, y21, y22, y23, y24, y25, y26, y27, y28, .func (.func 5) #[] #[.pointer (some ⟨gE, 0, none⟩)], .bool false, .agg #[.int .i64 xq.s.kind, .string (B xq.s.text), .string (B xq.s.type), .string (B xq.s.lang), .int .i64 xq.p.kind, .string (B xq.p.text), .string (B xq.p.type), .string (B xq.p.lang), .int .i64 xq.o.kind, .string (B xq.o.text), .string (B xq.o.type), .string (B xq.o.lang), .int .i64 xq.g.kind, .string (B xq.g.text), .string (B xq.g.type), .string (B xq.g.lang)], y32, y33, y34, y35, y36, y37, y38, y39, y40, y41, y42, y43, y44, y45, y46, y47, y48, y49, y50, y51, y52, y53, y54, y55, y56, y57, y58, y59, y60, y61, y62, y63, y64, y65, y66, y67, y68, y69, y70, y71, y72, y73, y74, y75, y76, y77, y78, y79, y80, y81, y82, y83, y84, y85, y86, y87, y88, y89, y90, y91, y92, y93, y94, y95, y96, y97, y98, y99, y100, y101, y102, y103, y104, y105, y106, y107], defers := [] } W := by
  obtain ⟨⟨hb10, hpre⟩, hB⟩ := hI
  have hlen := walkL_len p
  obtain ⟨hn0, h3, h4n, h4, h5, h6n, h6, h7, h8, h9, hE, h10⟩ := PA.lt
  have L1 := PA.len.1
  have L2 := PA.len.2
  obtain ⟨m, em⟩ : ∃ m, pre.length = m := ⟨_, rfl⟩
  simp only [em] at hlt hb10 hs hq
  have c10 := hb10.cell
  have f10 := hb10.frozen
  have c8 := (boxed_below PA.b8 hB h8).cell
  have c30 := (PA.b3.below hB h3).cell 0 _ rfl
  have c31 := (PA.b3.below hB h3).cell 1 _ rfl
  have c6 := (boxed_below PA.b6 hB h6).cell
  have f6 := (boxed_below PA.b6 hB h6).frozen
  have c5 := (boxed_below PA.b5 hB h5).cell
  have c9 := (boxed_below PA.b9 hB h9).cell
  have c4 := (boxed_below PA.b4 hB h4).cell
  have c7 := (boxed_below PA.b7 hB h7).cell
  have ne9 : g9 ≠ g10 := by omega
  have l7 : g7 < W.heap.size := by omega
  have l8 : g8 < W.heap.size := by omega
  have l9 : g9 < W.heap.size := by omega
  have l4 : g4 < W.heap.size := by omega
  have l10 : g10 < W.heap.size := by omega
  have ne8 : g8 ≠ g10 := by omega
  have ne4 : g4 ≠ g10 := by omega
  have ne7 : g7 ≠ g10 := by omega
  have h34 : decide ((p.minus.length : Int) + (p.plus.length : Int) ≤ (m : Int)) = false := decide_eq_false (by omega)
  have h41 : decide ((p.minus.length : Int) ≤ (m : Int)) = false := decide_eq_false (by omega)
  have h41n : decide (p.minus.length ≤ m) = false := decide_eq_false (by omega)
  obtain ⟨_, _, hee, _, hqa⟩ := (PA.view W (hB.mono (by omega))).1
  cases hee
  obtain ⟨b, o, rfl⟩ := hqa.place (by omega)
  have hk : m < p.minus.length := by omega
  have r1 := hqa.get hk
  obtain ⟨y, hy⟩ : ∃ y, p.minus[m] = y := ⟨_, rfl⟩
  rw [hy] at r1 hq
  obtain ⟨d0, d1, d2, d3, d4, d5, d6, d7, d8, d9, d10, d11, d12, d13, d14, d15⟩ := cells16 r1
  have e0 := hX.cell 0 _ rfl
  have e1 := hX.cell 1 _ rfl
  have e2 := hX.cell 2 _ rfl
  have e3 := hX.cell 3 _ rfl
  have e4 := hX.cell 4 _ rfl
  have e5 := hX.cell 5 _ rfl
  have e6 := hX.cell 6 _ rfl
  have e7 := hX.cell 7 _ rfl
  have e8 := hX.cell 8 _ rfl
  have e9 := hX.cell 9 _ rfl
  have e10 := hX.cell 10 _ rfl
  have e11 := hX.cell 11 _ rfl
  have e12 := hX.cell 12 _ rfl
  have e13 := hX.cell 13 _ rfl
  have e14 := hX.cell 14 _ rfl
  have e15 := hX.cell 15 _ rfl
  subst hq
  have NE := fun u => neq_q xq xq u
  rw [decide_eq_true rfl] at NE
  simp only [Bool.not_true] at NE
  dsimp only [qvE] at NE
  have PAH := Lib.hid PA
  have HBB := Lib.hid hB
  have HPRE := Lib.hid hpre
  have HEM := Lib.hid em
  have HB10 := Lib.hid hb10
  have hm0 : (0 : Int) ≤ (m : Int) := by omega
  clear r1 hy hqa PA hB hpre em hb10 hX hs
  have HL := Lib.hid hlen
  have HN := Lib.hid (show n₀ ≤ g10 by omega)
  have H10 := Lib.hid h10
  have HG := Lib.hid (show g10 + 1 ≤ W.heap.size by omega)
  have HE := Lib.hid hE
  have H8 := Lib.hid h8
  have H9 := Lib.hid h9
  have H4 := Lib.hid h4
  have HW0 := Lib.hid hW0
  clear hlen
  conv => arg 4; whnf
  gi_wp2_with fail
  refine region_quiet_round_lit rfl (by kernel_rfl) (by kernel_rfl) (by kernel_rfl) ?_
  repeat (gi_big_quiet_step (fail))
  refine wpQuietIn_nil ?_
  intro _ hw'
  obtain ⟨nq, hw''⟩ := hw'
  subst hw''
  have HW1 : Hid (Below (g10 + 1) W (W.drewN nq)) := Lib.hid (below_drewN (Below.refl _ W) nq)
  have HK1 : Hid (KeepsFrom W0.heap.size W (W.drewN nq)) := Lib.hid (keepsFrom_drewN W nq)
  have HB1 : Hid (Boxed (W.drewN nq) g10 3 (.int .i64 (m : Int))) := HB10
  have qc10 : (W.drewN nq).cell? ⟨g10, 0, none⟩ = some (.int .i64 (m : Int)) := c10
  have qc8 : (W.drewN nq).cell? ⟨g8, 0, none⟩ = some (.int .i64 ((p.minus.length : Int) + (p.plus.length : Int))) := c8
  have qc5 : (W.drewN nq).cell? ⟨g5, 0, none⟩ = some (.int .i64 inn) := c5
  have qc9 : (W.drewN nq).cell? ⟨g9, 0, none⟩ = some (.int .i64 (kk : Int)) := c9
  have qc4 : (W.drewN nq).cell? ⟨g4, 0, none⟩ = some (.int .i64 st) := c4
  have qc7 : (W.drewN nq).cell? ⟨g7, 0, none⟩ = some (.func (.func 5) #[] #[.pointer (some ⟨gE, 0, none⟩)]) := c7
  have qf10 : (W.drewN nq).frozen? ⟨g10, 0, none⟩ = false := f10
  have ql7 : g7 < (W.drewN nq).heap.size := l7
  have ql8 : g8 < (W.drewN nq).heap.size := l8
  have ql9 : g9 < (W.drewN nq).heap.size := l9
  have ql4 : g4 < (W.drewN nq).heap.size := l4
  have ql10 : g10 < (W.drewN nq).heap.size := l10
  have qW0 : Hid (W0.heap.size ≤ (W.drewN nq).heap.size) := HW0
  have hrq : Hid (∃ r, (W.drewN nq).heap[l]? = some (.loop r)) := Lib.hid hr
  generalize W.drewN nq = WQ at HW1 HK1 HB1 qc10 qc8 qc5 qc9 qc4 qc7 qf10 ql7 ql8 ql9 ql4 ql10 qW0 hrq ⊢
  clear c10 c8 c5 c9 c4 c7 f10 l7 l8 l9 l4 l10 c30 c31 c6 f6 HB10 HW0 hr hW0 h10 NE d0 d1 d2 d3 d4 d5 d6 d7 d8 d9 d10 d11 d12 d13 d14 d15 e0 e1 e2 e3 e4 e5 e6 e7 e8 e9 e10 e11 e12 e13 e14 e15
  cases q75 : ((m : Int) == inn) with
  | false =>
    gi_wp2_with fail
    all_goals (first | exact walk_break HEM.out HB1.out HBB.out H10.out HN.out hnp.out HW1.out HK1.out (by assumption) (by assumption) | exact walk_end HEM.out HB1.out HBB.out H10.out HN.out hnp.out HW1.out HK1.out)
  | true =>
    gi_wp2_with fail
    obtain ⟨r, hr⟩ := hrq.out
    have hW0 := qW0.out
    have h10 := H10.out
    have hN := HN.out
    have hE := HE.out
    have h8 := H8.out
    have h9 := H9.out
    have h4 := H4.out
    have hr' : (WQ.alloc (.cells #[.int .i64 0] 3)).heap[l]? = some (.loop r) := (Below.heap_alloc WQ _ l (Array.getElem?_eq_some_iff.1 hr).1).trans hr
    have bJ := Boxed.new WQ 3 (.int .i64 0)
    have hBA : Below (g10 + 1) W (WQ.alloc (.cells #[.int .i64 0] 3)) := HW1.out.alloc (by omega) _
    have hKA : KeepsFrom W0.heap.size W (WQ.alloc (.cells #[.int .i64 0] 3)) := HK1.out.trans ((KeepsOthers.alloc _ _).from _)
    have hsz : (WQ.alloc (.cells #[.int .i64 0] 3)).heap.size = WQ.heap.size + 1 := by simp
    have hEA : BoxN (WQ.alloc (.cells #[.int .i64 0] 3)) gE 24 _ := ((PAH.out.bE.below HBB.out hE).below hBA (by omega))
    have hB0A : Below n₀ W0 (WQ.alloc (.cells #[.int .i64 0] 3)) := (HBB.out.mono (by omega)).trans (hBA.mono (by omega))
    have bI : Boxed (WQ.alloc (.cells #[.int .i64 0] 3)) g10 3 (.int .i64 (m : Int)) := HB1.out.alloc _
    obtain ⟨WA, hWA⟩ : ∃ WA, WQ.alloc (.cells #[.int .i64 0] 3) = WA := ⟨_, rfl⟩
    rw [hWA] at hr' bJ hBA hKA hsz hEA hB0A bI ⊢
    clear hWA
    refine rangeN_skip (ps := #[77, 78]) (encs := encW) (l₀ := l) (r₀ := r) rfl hr' (by omega) (gf := 5) (lb := #[.pointer (some ⟨gE, 0, none⟩)]) rfl trivial (enters_of Try.func5 (by kernel_rfl) rfl)
      ((each_stops Fence.wide (n - 1 - 1 - 1) trivial rfl (by omega) gE n₀ p _ _ WA (by omega) (by omega) (hEA.cell 0 _ rfl) (hEA.cell 1 _ rfl) (fun W' h => PAH.out.view W' (hB0A.trans h)) ⟨by omega, by omega⟩).inRound l) (by omega) (Below.refl _ _) (fun _ => rfl)
      (fun pre' W' => Boxed W' WQ.heap.size 3 (.int .i64 (pre'.length : Int)) ∧ (Below WQ.heap.size WA W' ∧ KeepsFrom W0.heap.size WA W'))
      (fun _ _ _ => False)
      (OwnFrom.and (Own.from (boxed_own WQ.heap.size 3 (fun pre' : List (Bool × QuadL) => .int .i64 (pre'.length : Int))) _) (OwnFrom.and (ownFrom_below (by omega) (by omega)) (ownFrom_keepsFrom (Nat.le_refl _))))
      (fun _ _ _ _ _ hs _ _ => hs)
      ⟨bJ, Below.refl _ _, KeepsFrom.refl _ _⟩ ?body2 ?done2 ?stop2
    case body2 =>
      rintro l2 pre' y W' _ _ ⟨bJ2, hBW, hKF⟩ hlt2
      have cJ := bJ2.cell
      have fJ := bJ2.frozen
      have hlt3 : pre'.length < 9223372036854775807 := by
        have := HL.out
        omega
      have HBJ := Lib.hid bJ2
      have HKF := Lib.hid hKF
      have HBW := Lib.hid hBW
      have hns : n₀ ≤ WQ.heap.size := by omega
      clear bJ2 hKF hBW qc10 qc8 qc5 qc9 qc4 qc7 qf10
      gi_wp2_with fail
      exact ⟨(KeepsOthers.setCell _ _ _).from _, (Below.refl _ W').setCell (p := ⟨WQ.heap.size, 0, none⟩) hns _, ⟨by
        have := HBJ.out.set (.int .i64 ((pre'.length : Int) + 1))
        simpa using this, HBW.out.setCell (p := ⟨WQ.heap.size, 0, none⟩) (Nat.le_refl _) _, HKF.out.trans ((KeepsOthers.setCell _ _ _).from _)⟩⟩
    case done2 =>
      rintro ys' W' rfl ⟨bJ2, hBW, hKF⟩
      rw [HL.out, Int.natCast_add] at bJ2
      have HB2 : Hid (Boxed W' g10 3 (.int .i64 (m : Int))) := Lib.hid (boxed_below bI hBW ql10)
      have HW2 : Hid (Below (g10 + 1) W W') := Lib.hid (hBA.trans (hBW.mono (by omega)))
      have HK2 : Hid (KeepsFrom W0.heap.size W W') := Lib.hid (hKA.trans hKF)
      have cJ := bJ2.cell
      have c10' := HB2.out.cell
      have f10' := HB2.out.frozen
      have c8' := (boxed_below (boxed_below PAH.out.b8 HBB.out h8) HW2.out (by omega)).cell
      have c9' := (boxed_below (boxed_below PAH.out.b9 HBB.out h9) HW2.out (by omega)).cell
      have c4' := (boxed_below (boxed_below PAH.out.b4 HBB.out h4) HW2.out (by omega)).cell
      have neJ : WQ.heap.size ≠ g10 := by omega
      clear bJ2 hBW hKF hBA hKA hr' bJ hEA hB0A bI hr qc10 qc8 qc5 qc9 qc4 qc7 qf10
      gi_wp2_with fail
      all_goals (first | exact walk_break HEM.out HB2.out HBB.out H10.out HN.out hnp.out HW2.out HK2.out (by assumption) (by assumption) | exact walk_end HEM.out HB2.out HBB.out H10.out HN.out hnp.out HW2.out HK2.out)
    case stop2 =>
      rintro c pre' W' _ h
      exact h.elim
set_option maxHeartbeats 8000000 in
theorem body_r2 (n : Nat) (hn : 6 ≤ n) (W0 : World) (p : PatchL) (a0 a1 : Option Addr) (c0 c1 n₀ g3 g4 g5 g6 g7 g8 g9 g10 gE : Nat) (st inn : Int) (kk : Nat) (PA : PassAt W0 p (.slice a0 p.minus.length c0) (.slice a1 p.plus.length c1) n₀ g3 g4 g5 g6 g7 g8 g9 g10 gE st inn kk)
    (y0 y1 y2 y11 y12 y13 y14 y15 y16 y17 y18 y19 y20 y21 y22 y23 y24 y25 y26 y27 y28 y30 y31 y32 y33 y34 y35 y36 y37 y38 y39 y40 y41 y42 y43 y44 y45 y46 y47 y48 y49 y50 y51 y52 y53 y54 y55 y56 y57 y58 y59 y60 y61 y62 y63 y64 y65 y66 y67 y68 y69 y70 y71 y72 y73 y74 y75 y76 y77 y78 y79 y80 y81 y82 y83 y84 y85 y86 y87 y88 y89 y90 y91 y92 y93 y94 y95 y96 y97 y98 y99 y100 y101 y102 y103 y104 y105 y106 y107 : Value) (l : Nat) (pre : List (Bool × QuadL)) (xq : QuadL) (W : World) (Bx : Nat) (hW0 : W0.heap.size ≤ W.heap.size) (hl : W0.heap.size ≤ l) (hr : ∃ r, W.heap[l]? = some (.loop r)) (hI : WI W0 p g10 pre W) (hX : BoxN W Bx 31 #[.int .i64 xq.s.kind, .string (B xq.s.text), .string (B xq.s.type), .string (B xq.s.lang), .int .i64 xq.p.kind, .string (B xq.p.text), .string (B xq.p.type), .string (B xq.p.lang), .int .i64 xq.o.kind, .string (B xq.o.text), .string (B xq.o.type), .string (B xq.o.lang), .int .i64 xq.g.kind, .string (B xq.g.text), .string (B xq.g.type), .string (B xq.g.lang)]) (hBx : g10 < Bx) (hlt : pre.length < (walkL p).length) (hs : p.minus.length ≤ pre.length) (hk0 : pre.length - p.minus.length < p.plus.length) (hq : xq = p.plus[pre.length - p.minus.length]'hk0) (hnp : Hid ((pre ++ [(true, xq)]) <+: walkL p)) :
    walkBody.wpIn (Fence.wide.inRound l) (n - 1 - 1) Try.prog (ownPostG W0.heap.size (Below n₀) (WI W0 p g10) (WX W0 p g10 st kk) (pre ++ [(true, xq)]) W) { tmps := #[y0, y1, y2, .pointer (some ⟨g3, 0, none⟩), .pointer (some ⟨g4, 0, none⟩), .pointer (some ⟨g5, 0, none⟩), .pointer (some ⟨g6, 0, none⟩), .pointer (some ⟨g7, 0, none⟩), .pointer (some ⟨g8, 0, none⟩), .pointer (some ⟨g9, 0, none⟩), .pointer (some ⟨g10, 0, none⟩), .bool true, .pointer (some ⟨Bx, 0, none⟩), y13, y14, y15, y16, y17, y18, y19, y20, y21, y22, y23, y24, y25, y26, y27, y28, .func (.func 5) #[] #[.pointer (some ⟨gE, 0, none⟩)], .bool true, .agg #[.int .i64 xq.s.kind, .string (B xq.s.text), .string (B xq.s.type), .string (B xq.s.lang), .int .i64 xq.p.kind, .string (B xq.p.text), .string (B xq.p.type), .string (B xq.p.lang), .int .i64 xq.o.kind, .string (B xq.o.text), .string (B xq.o.type), .string (B xq.o.lang), .int .i64 xq.g.kind, .string (B xq.g.text), .string (B xq.g.type), .string (B xq.g.lang)], y32, y33, y34, y35, y36, y37, y38, y39, y40, y41, y42, y43, y44, y45, y46, y47, y48, y49, y50, y51, y52, y53, y54, y55, y56, y57, y58, y59, y60, y61, y62, y63, y64, y65, y66, y67, y68, y69, y70, y71, y72, y73, y74, y75, y76, y77, y78, y79, y80, y81, y82, y83, y84, y85, y86, y87, y88, y89, y90, y91, y92, y93, y94, y95, y96, y97, y98, y99, y100, y101, y102, y103, y104, y105, y106, y107], defers := [] } W := by
  obtain ⟨⟨hb10, hpre⟩, hB⟩ := hI
  have hlen := walkL_len p
  obtain ⟨hn0, h3, h4n, h4, h5, h6n, h6, h7, h8, h9, hE, h10⟩ := PA.lt
  have L1 := PA.len.1
  have L2 := PA.len.2
  obtain ⟨m, em⟩ : ∃ m, pre.length = m := ⟨_, rfl⟩
  simp only [em] at hlt hb10 hs hq
  have c10 := hb10.cell
  have f10 := hb10.frozen
  have c8 := (boxed_below PA.b8 hB h8).cell
  have c30 := (PA.b3.below hB h3).cell 0 _ rfl
  have c31 := (PA.b3.below hB h3).cell 1 _ rfl
  have c6 := (boxed_below PA.b6 hB h6).cell
  have f6 := (boxed_below PA.b6 hB h6).frozen
  have c5 := (boxed_below PA.b5 hB h5).cell
  have c9 := (boxed_below PA.b9 hB h9).cell
  have c4 := (boxed_below PA.b4 hB h4).cell
  have c7 := (boxed_below PA.b7 hB h7).cell
  have ne9 : g9 ≠ g10 := by omega
  have l7 : g7 < W.heap.size := by omega
  have l8 : g8 < W.heap.size := by omega
  have l9 : g9 < W.heap.size := by omega
  have l4 : g4 < W.heap.size := by omega
  have l10 : g10 < W.heap.size := by omega
  have ne8 : g8 ≠ g10 := by omega
  have ne4 : g4 ≠ g10 := by omega
  have ne7 : g7 ≠ g10 := by omega
  have h34 : decide ((p.minus.length : Int) + (p.plus.length : Int) ≤ (m : Int)) = false := decide_eq_false (by omega)
  have h41 : decide ((p.minus.length : Int) ≤ (m : Int)) = true := decide_eq_true (by omega)
  have h41n : decide (p.minus.length ≤ m) = true := decide_eq_true (by omega)
  obtain ⟨_, _, hee, _, hqa⟩ := (PA.view W (hB.mono (by omega))).2
  cases hee
  obtain ⟨b, o, rfl⟩ := hqa.place (by omega)
  have hk : (m - p.minus.length) < p.plus.length := by omega
  have r1 := hqa.get hk
  obtain ⟨y, hy⟩ : ∃ y, p.plus[(m - p.minus.length)] = y := ⟨_, rfl⟩
  rw [hy] at r1 hq
  obtain ⟨k, ek⟩ : ∃ k, m - p.minus.length = k := ⟨_, rfl⟩
  rw [ek] at r1 hk
  have hwr : IntKind.i64.wrap ((m : Int) - (p.minus.length : Int)) = (k : Int) := by rw [IntKind.wrap_i64]; omega
  obtain ⟨d0, d1, d2, d3, d4, d5, d6, d7, d8, d9, d10, d11, d12, d13, d14, d15⟩ := cells16 r1
  have e0 := hX.cell 0 _ rfl
  have e1 := hX.cell 1 _ rfl
  have e2 := hX.cell 2 _ rfl
  have e3 := hX.cell 3 _ rfl
  have e4 := hX.cell 4 _ rfl
  have e5 := hX.cell 5 _ rfl
  have e6 := hX.cell 6 _ rfl
  have e7 := hX.cell 7 _ rfl
  have e8 := hX.cell 8 _ rfl
  have e9 := hX.cell 9 _ rfl
  have e10 := hX.cell 10 _ rfl
  have e11 := hX.cell 11 _ rfl
  have e12 := hX.cell 12 _ rfl
  have e13 := hX.cell 13 _ rfl
  have e14 := hX.cell 14 _ rfl
  have e15 := hX.cell 15 _ rfl
  subst hq
  have NE := fun u => neq_q xq xq u
  rw [decide_eq_true rfl] at NE
  simp only [Bool.not_true] at NE
  dsimp only [qvE] at NE
  have PAH := Lib.hid PA
  have HBB := Lib.hid hB
  have HPRE := Lib.hid hpre
  have HEM := Lib.hid em
  have HB10 := Lib.hid hb10
  have hm0 : (0 : Int) ≤ (k : Int) := by omega
  have hek := Lib.hid ek
  clear ek
  clear r1 hy hqa PA hB hpre em hb10 hX hs
  have HL := Lib.hid hlen
  have HN := Lib.hid (show n₀ ≤ g10 by omega)
  have H10 := Lib.hid h10
  have HG := Lib.hid (show g10 + 1 ≤ W.heap.size by omega)
  have HE := Lib.hid hE
  have H8 := Lib.hid h8
  have H9 := Lib.hid h9
  have H4 := Lib.hid h4
  have HW0 := Lib.hid hW0
  clear hlen
  conv => arg 4; whnf
  gi_wp2_with fail
  refine region_quiet_round_lit rfl (by kernel_rfl) (by kernel_rfl) (by kernel_rfl) ?_
  repeat (gi_big_quiet_step (fail))
  refine wpQuietIn_nil ?_
  intro _ hw'
  obtain ⟨nq, hw''⟩ := hw'
  subst hw''
  have HW1 : Hid (Below (g10 + 1) W (W.drewN nq)) := Lib.hid (below_drewN (Below.refl _ W) nq)
  have HK1 : Hid (KeepsFrom W0.heap.size W (W.drewN nq)) := Lib.hid (keepsFrom_drewN W nq)
  have HB1 : Hid (Boxed (W.drewN nq) g10 3 (.int .i64 (m : Int))) := HB10
  have qc10 : (W.drewN nq).cell? ⟨g10, 0, none⟩ = some (.int .i64 (m : Int)) := c10
  have qc8 : (W.drewN nq).cell? ⟨g8, 0, none⟩ = some (.int .i64 ((p.minus.length : Int) + (p.plus.length : Int))) := c8
  have qc5 : (W.drewN nq).cell? ⟨g5, 0, none⟩ = some (.int .i64 inn) := c5
  have qc9 : (W.drewN nq).cell? ⟨g9, 0, none⟩ = some (.int .i64 (kk : Int)) := c9
  have qc4 : (W.drewN nq).cell? ⟨g4, 0, none⟩ = some (.int .i64 st) := c4
  have qc7 : (W.drewN nq).cell? ⟨g7, 0, none⟩ = some (.func (.func 5) #[] #[.pointer (some ⟨gE, 0, none⟩)]) := c7
  have qf10 : (W.drewN nq).frozen? ⟨g10, 0, none⟩ = false := f10
  have ql7 : g7 < (W.drewN nq).heap.size := l7
  have ql8 : g8 < (W.drewN nq).heap.size := l8
  have ql9 : g9 < (W.drewN nq).heap.size := l9
  have ql4 : g4 < (W.drewN nq).heap.size := l4
  have ql10 : g10 < (W.drewN nq).heap.size := l10
  have qW0 : Hid (W0.heap.size ≤ (W.drewN nq).heap.size) := HW0
  have hrq : Hid (∃ r, (W.drewN nq).heap[l]? = some (.loop r)) := Lib.hid hr
  generalize W.drewN nq = WQ at HW1 HK1 HB1 qc10 qc8 qc5 qc9 qc4 qc7 qf10 ql7 ql8 ql9 ql4 ql10 qW0 hrq ⊢
  clear c10 c8 c5 c9 c4 c7 f10 l7 l8 l9 l4 l10 c30 c31 c6 f6 HB10 HW0 hr hW0 h10 NE d0 d1 d2 d3 d4 d5 d6 d7 d8 d9 d10 d11 d12 d13 d14 d15 e0 e1 e2 e3 e4 e5 e6 e7 e8 e9 e10 e11 e12 e13 e14 e15
  cases q75 : ((m : Int) == inn) with
  | false =>
    gi_wp2_with fail
    all_goals (first | exact walk_break HEM.out HB1.out HBB.out H10.out HN.out hnp.out HW1.out HK1.out (by assumption) (by assumption) | exact walk_end HEM.out HB1.out HBB.out H10.out HN.out hnp.out HW1.out HK1.out)
  | true =>
    gi_wp2_with fail
    obtain ⟨r, hr⟩ := hrq.out
    have hW0 := qW0.out
    have h10 := H10.out
    have hN := HN.out
    have hE := HE.out
    have h8 := H8.out
    have h9 := H9.out
    have h4 := H4.out
    have hr' : (WQ.alloc (.cells #[.int .i64 0] 3)).heap[l]? = some (.loop r) := (Below.heap_alloc WQ _ l (Array.getElem?_eq_some_iff.1 hr).1).trans hr
    have bJ := Boxed.new WQ 3 (.int .i64 0)
    have hBA : Below (g10 + 1) W (WQ.alloc (.cells #[.int .i64 0] 3)) := HW1.out.alloc (by omega) _
    have hKA : KeepsFrom W0.heap.size W (WQ.alloc (.cells #[.int .i64 0] 3)) := HK1.out.trans ((KeepsOthers.alloc _ _).from _)
    have hsz : (WQ.alloc (.cells #[.int .i64 0] 3)).heap.size = WQ.heap.size + 1 := by simp
    have hEA : BoxN (WQ.alloc (.cells #[.int .i64 0] 3)) gE 24 _ := ((PAH.out.bE.below HBB.out hE).below hBA (by omega))
    have hB0A : Below n₀ W0 (WQ.alloc (.cells #[.int .i64 0] 3)) := (HBB.out.mono (by omega)).trans (hBA.mono (by omega))
    have bI : Boxed (WQ.alloc (.cells #[.int .i64 0] 3)) g10 3 (.int .i64 (m : Int)) := HB1.out.alloc _
    obtain ⟨WA, hWA⟩ : ∃ WA, WQ.alloc (.cells #[.int .i64 0] 3) = WA := ⟨_, rfl⟩
    rw [hWA] at hr' bJ hBA hKA hsz hEA hB0A bI ⊢
    clear hWA
    refine rangeN_skip (ps := #[77, 78]) (encs := encW) (l₀ := l) (r₀ := r) rfl hr' (by omega) (gf := 5) (lb := #[.pointer (some ⟨gE, 0, none⟩)]) rfl trivial (enters_of Try.func5 (by kernel_rfl) rfl)
      ((each_stops Fence.wide (n - 1 - 1 - 1) trivial rfl (by omega) gE n₀ p _ _ WA (by omega) (by omega) (hEA.cell 0 _ rfl) (hEA.cell 1 _ rfl) (fun W' h => PAH.out.view W' (hB0A.trans h)) ⟨by omega, by omega⟩).inRound l) (by omega) (Below.refl _ _) (fun _ => rfl)
      (fun pre' W' => Boxed W' WQ.heap.size 3 (.int .i64 (pre'.length : Int)) ∧ (Below WQ.heap.size WA W' ∧ KeepsFrom W0.heap.size WA W'))
      (fun _ _ _ => False)
      (OwnFrom.and (Own.from (boxed_own WQ.heap.size 3 (fun pre' : List (Bool × QuadL) => .int .i64 (pre'.length : Int))) _) (OwnFrom.and (ownFrom_below (by omega) (by omega)) (ownFrom_keepsFrom (Nat.le_refl _))))
      (fun _ _ _ _ _ hs _ _ => hs)
      ⟨bJ, Below.refl _ _, KeepsFrom.refl _ _⟩ ?body2 ?done2 ?stop2
    case body2 =>
      rintro l2 pre' y W' _ _ ⟨bJ2, hBW, hKF⟩ hlt2
      have cJ := bJ2.cell
      have fJ := bJ2.frozen
      have hlt3 : pre'.length < 9223372036854775807 := by
        have := HL.out
        omega
      have HBJ := Lib.hid bJ2
      have HKF := Lib.hid hKF
      have HBW := Lib.hid hBW
      have hns : n₀ ≤ WQ.heap.size := by omega
      clear bJ2 hKF hBW qc10 qc8 qc5 qc9 qc4 qc7 qf10
      gi_wp2_with fail
      exact ⟨(KeepsOthers.setCell _ _ _).from _, (Below.refl _ W').setCell (p := ⟨WQ.heap.size, 0, none⟩) hns _, ⟨by
        have := HBJ.out.set (.int .i64 ((pre'.length : Int) + 1))
        simpa using this, HBW.out.setCell (p := ⟨WQ.heap.size, 0, none⟩) (Nat.le_refl _) _, HKF.out.trans ((KeepsOthers.setCell _ _ _).from _)⟩⟩
    case done2 =>
      rintro ys' W' rfl ⟨bJ2, hBW, hKF⟩
      rw [HL.out, Int.natCast_add] at bJ2
      have HB2 : Hid (Boxed W' g10 3 (.int .i64 (m : Int))) := Lib.hid (boxed_below bI hBW ql10)
      have HW2 : Hid (Below (g10 + 1) W W') := Lib.hid (hBA.trans (hBW.mono (by omega)))
      have HK2 : Hid (KeepsFrom W0.heap.size W W') := Lib.hid (hKA.trans hKF)
      have cJ := bJ2.cell
      have c10' := HB2.out.cell
      have f10' := HB2.out.frozen
      have c8' := (boxed_below (boxed_below PAH.out.b8 HBB.out h8) HW2.out (by omega)).cell
      have c9' := (boxed_below (boxed_below PAH.out.b9 HBB.out h9) HW2.out (by omega)).cell
      have c4' := (boxed_below (boxed_below PAH.out.b4 HBB.out h4) HW2.out (by omega)).cell
      have neJ : WQ.heap.size ≠ g10 := by omega
      clear bJ2 hBW hKF hBA hKA hr' bJ hEA hB0A bI hr qc10 qc8 qc5 qc9 qc4 qc7 qf10
      gi_wp2_with fail
      all_goals (first | exact walk_break HEM.out HB2.out HBB.out H10.out HN.out hnp.out HW2.out HK2.out (by assumption) (by assumption) | exact walk_end HEM.out HB2.out HBB.out H10.out HN.out hnp.out HW2.out HK2.out)
    case stop2 =>
      rintro c pre' W' _ h
      exact h.elim
end Go.Proofs.Ythipcepgbegaiaa
