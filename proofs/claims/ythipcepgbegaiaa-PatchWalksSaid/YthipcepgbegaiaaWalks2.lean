/-
  tesseralaw23.PatchWalks: one pass through patch.Each, and the whole walk. By an AI agent.
-/
import Derived.Test.YthipcepgbegaiaaWalks
import Derived.Laws.EntriesVeiled
namespace Go.Proofs.Ythipcepgbegaiaa
open Go.RowKit Go.Shelf
set_option maxRecDepth 100000
attribute [local go_sem] Oper.semAt_some
theorem walk_get0 (p : PatchL) (k : Nat) (hk : k < p.minus.length) : (walkL p)[k]? = some (false, p.minus[k]) := by simp [walkL, List.getElem?_append_left, hk]
theorem walk_get1 (p : PatchL) (k : Nat) (h1 : p.minus.length ≤ k) (hk : k - p.minus.length < p.plus.length) : (walkL p)[k]? = some (true, p.plus[k - p.minus.length]) := by
  rw [walkL, List.getElem?_append_right (by simpa using h1)]
  simp [hk]
theorem not_prefix {p : PatchL} {pre : List (Bool × QuadL)} {x : Bool × QuadL} (hw : (walkL p)[pre.length]? ≠ some x) : Hid (¬ (pre ++ [x]) <+: walkL p) := Lib.hid (fun h => hw (by
    obtain ⟨t, ht⟩ := h
    rw [← ht, List.append_assoc, List.getElem?_append_right (Nat.le_refl _), Nat.sub_self]
    rfl))
theorem body_all (n : Nat) (hn : 6 ≤ n) (W0 : World) (p : PatchL) (a0 a1 : Option Addr) (c0 c1 n₀ g3 g4 g5 g6 g7 g8 g9 g10 gE : Nat) (st inn : Int) (kk : Nat) (PA : PassAt W0 p (.slice a0 p.minus.length c0) (.slice a1 p.plus.length c1) n₀ g3 g4 g5 g6 g7 g8 g9 g10 gE st inn kk)
    (y0 y1 y2 y11 y12 y13 y14 y15 y16 y17 y18 y19 y20 y21 y22 y23 y24 y25 y26 y27 y28 y30 y31 y32 y33 y34 y35 y36 y37 y38 y39 y40 y41 y42 y43 y44 y45 y46 y47 y48 y49 y50 y51 y52 y53 y54 y55 y56 y57 y58 y59 y60 y61 y62 y63 y64 y65 y66 y67 y68 y69 y70 y71 y72 y73 y74 y75 y76 y77 y78 y79 y80 y81 y82 y83 y84 y85 y86 y87 y88 y89 y90 y91 y92 y93 y94 y95 y96 y97 y98 y99 y100 y101 y102 y103 y104 y105 y106 y107 : Value) (l : Nat) (pre : List (Bool × QuadL)) (x : Bool × QuadL) (W : World) (Bx : Nat) (hW0 : W0.heap.size ≤ W.heap.size) (hl : W0.heap.size ≤ l) (hr : ∃ r, W.heap[l]? = some (.loop r)) (hI : WI W0 p g10 pre W) (hX : BoxN W Bx 31 #[.int .i64 x.2.s.kind, .string (B x.2.s.text), .string (B x.2.s.type), .string (B x.2.s.lang), .int .i64 x.2.p.kind, .string (B x.2.p.text), .string (B x.2.p.type), .string (B x.2.p.lang), .int .i64 x.2.o.kind, .string (B x.2.o.text), .string (B x.2.o.type), .string (B x.2.o.lang), .int .i64 x.2.g.kind, .string (B x.2.g.text), .string (B x.2.g.type), .string (B x.2.g.lang)]) (hBx : g10 < Bx) (hlt : pre.length < (walkL p).length) :
    walkBody.wpIn (Fence.wide.inRound l) (n - 1 - 1) Try.prog (ownPostG W0.heap.size (Below n₀) (WI W0 p g10) (WX W0 p g10 st kk) (pre ++ [x]) W) { tmps := #[y0, y1, y2, .pointer (some ⟨g3, 0, none⟩), .pointer (some ⟨g4, 0, none⟩), .pointer (some ⟨g5, 0, none⟩), .pointer (some ⟨g6, 0, none⟩), .pointer (some ⟨g7, 0, none⟩), .pointer (some ⟨g8, 0, none⟩), .pointer (some ⟨g9, 0, none⟩), .pointer (some ⟨g10, 0, none⟩), .bool x.1, .pointer (some ⟨Bx, 0, none⟩), y13, y14, y15, y16, y17, y18, y19, y20, y21, y22, y23, y24, y25, y26, y27, y28, .func (.func 5) #[] #[.pointer (some ⟨gE, 0, none⟩)], .bool x.1, .agg #[.int .i64 x.2.s.kind, .string (B x.2.s.text), .string (B x.2.s.type), .string (B x.2.s.lang), .int .i64 x.2.p.kind, .string (B x.2.p.text), .string (B x.2.p.type), .string (B x.2.p.lang), .int .i64 x.2.o.kind, .string (B x.2.o.text), .string (B x.2.o.type), .string (B x.2.o.lang), .int .i64 x.2.g.kind, .string (B x.2.g.text), .string (B x.2.g.type), .string (B x.2.g.lang)], y32, y33, y34, y35, y36, y37, y38, y39, y40, y41, y42, y43, y44, y45, y46, y47, y48, y49, y50, y51, y52, y53, y54, y55, y56, y57, y58, y59, y60, y61, y62, y63, y64, y65, y66, y67, y68, y69, y70, y71, y72, y73, y74, y75, y76, y77, y78, y79, y80, y81, y82, y83, y84, y85, y86, y87, y88, y89, y90, y91, y92, y93, y94, y95, y96, y97, y98, y99, y100, y101, y102, y103, y104, y105, y106, y107], defers := [] } W := by
  obtain ⟨xb, xq⟩ := x
  have hlen := walkL_len p
  by_cases hs : pre.length < p.minus.length
  · have hg := walk_get0 p pre.length hs
    cases xb with
    | true => exact body_w1 n hn W0 p a0 a1 c0 c1 n₀ g3 g4 g5 g6 g7 g8 g9 g10 gE st inn kk PA y0 y1 y2 y11 y12 y13 y14 y15 y16 y17 y18 y19 y20 y21 y22 y23 y24 y25 y26 y27 y28 y30 y31 y32 y33 y34 y35 y36 y37 y38 y39 y40 y41 y42 y43 y44 y45 y46 y47 y48 y49 y50 y51 y52 y53 y54 y55 y56 y57 y58 y59 y60 y61 y62 y63 y64 y65 y66 y67 y68 y69 y70 y71 y72 y73 y74 y75 y76 y77 y78 y79 y80 y81 y82 y83 y84 y85 y86 y87 y88 y89 y90 y91 y92 y93 y94 y95 y96 y97 y98 y99 y100 y101 y102 y103 y104 y105 y106 y107 l pre xq W Bx hW0 hl hr hI hX hBx hlt hs (not_prefix (by rw [hg]; simp))
    | false =>
      by_cases hq : xq = p.minus[pre.length]
      · exact body_r1 n hn W0 p a0 a1 c0 c1 n₀ g3 g4 g5 g6 g7 g8 g9 g10 gE st inn kk PA y0 y1 y2 y11 y12 y13 y14 y15 y16 y17 y18 y19 y20 y21 y22 y23 y24 y25 y26 y27 y28 y30 y31 y32 y33 y34 y35 y36 y37 y38 y39 y40 y41 y42 y43 y44 y45 y46 y47 y48 y49 y50 y51 y52 y53 y54 y55 y56 y57 y58 y59 y60 y61 y62 y63 y64 y65 y66 y67 y68 y69 y70 y71 y72 y73 y74 y75 y76 y77 y78 y79 y80 y81 y82 y83 y84 y85 y86 y87 y88 y89 y90 y91 y92 y93 y94 y95 y96 y97 y98 y99 y100 y101 y102 y103 y104 y105 y106 y107 l pre xq W Bx hW0 hl hr hI hX hBx hlt hs hs hq (Lib.hid (prefix_snoc hI.1.2 (by rw [hg, hq])))
      · exact body_w2 n hn W0 p a0 a1 c0 c1 n₀ g3 g4 g5 g6 g7 g8 g9 g10 gE st inn kk PA y0 y1 y2 y11 y12 y13 y14 y15 y16 y17 y18 y19 y20 y21 y22 y23 y24 y25 y26 y27 y28 y30 y31 y32 y33 y34 y35 y36 y37 y38 y39 y40 y41 y42 y43 y44 y45 y46 y47 y48 y49 y50 y51 y52 y53 y54 y55 y56 y57 y58 y59 y60 y61 y62 y63 y64 y65 y66 y67 y68 y69 y70 y71 y72 y73 y74 y75 y76 y77 y78 y79 y80 y81 y82 y83 y84 y85 y86 y87 y88 y89 y90 y91 y92 y93 y94 y95 y96 y97 y98 y99 y100 y101 y102 y103 y104 y105 y106 y107 l pre xq W Bx hW0 hl hr hI hX hBx hlt hs hs hq (not_prefix (by rw [hg]; simp; exact fun e => hq e.symm))
  · have hs : p.minus.length ≤ pre.length := by omega
    have hk : pre.length - p.minus.length < p.plus.length := by omega
    have hg := walk_get1 p pre.length hs hk
    cases xb with
    | false => exact body_w3 n hn W0 p a0 a1 c0 c1 n₀ g3 g4 g5 g6 g7 g8 g9 g10 gE st inn kk PA y0 y1 y2 y11 y12 y13 y14 y15 y16 y17 y18 y19 y20 y21 y22 y23 y24 y25 y26 y27 y28 y30 y31 y32 y33 y34 y35 y36 y37 y38 y39 y40 y41 y42 y43 y44 y45 y46 y47 y48 y49 y50 y51 y52 y53 y54 y55 y56 y57 y58 y59 y60 y61 y62 y63 y64 y65 y66 y67 y68 y69 y70 y71 y72 y73 y74 y75 y76 y77 y78 y79 y80 y81 y82 y83 y84 y85 y86 y87 y88 y89 y90 y91 y92 y93 y94 y95 y96 y97 y98 y99 y100 y101 y102 y103 y104 y105 y106 y107 l pre xq W Bx hW0 hl hr hI hX hBx hlt hs (not_prefix (by rw [hg]; simp))
    | true =>
      by_cases hq : xq = p.plus[pre.length - p.minus.length]
      · exact body_r2 n hn W0 p a0 a1 c0 c1 n₀ g3 g4 g5 g6 g7 g8 g9 g10 gE st inn kk PA y0 y1 y2 y11 y12 y13 y14 y15 y16 y17 y18 y19 y20 y21 y22 y23 y24 y25 y26 y27 y28 y30 y31 y32 y33 y34 y35 y36 y37 y38 y39 y40 y41 y42 y43 y44 y45 y46 y47 y48 y49 y50 y51 y52 y53 y54 y55 y56 y57 y58 y59 y60 y61 y62 y63 y64 y65 y66 y67 y68 y69 y70 y71 y72 y73 y74 y75 y76 y77 y78 y79 y80 y81 y82 y83 y84 y85 y86 y87 y88 y89 y90 y91 y92 y93 y94 y95 y96 y97 y98 y99 y100 y101 y102 y103 y104 y105 y106 y107 l pre xq W Bx hW0 hl hr hI hX hBx hlt hs hk hq (Lib.hid (prefix_snoc hI.1.2 (by rw [hg, hq])))
      · exact body_w4 n hn W0 p a0 a1 c0 c1 n₀ g3 g4 g5 g6 g7 g8 g9 g10 gE st inn kk PA y0 y1 y2 y11 y12 y13 y14 y15 y16 y17 y18 y19 y20 y21 y22 y23 y24 y25 y26 y27 y28 y30 y31 y32 y33 y34 y35 y36 y37 y38 y39 y40 y41 y42 y43 y44 y45 y46 y47 y48 y49 y50 y51 y52 y53 y54 y55 y56 y57 y58 y59 y60 y61 y62 y63 y64 y65 y66 y67 y68 y69 y70 y71 y72 y73 y74 y75 y76 y77 y78 y79 y80 y81 y82 y83 y84 y85 y86 y87 y88 y89 y90 y91 y92 y93 y94 y95 y96 y97 y98 y99 y100 y101 y102 y103 y104 y105 y106 y107 l pre xq W Bx hW0 hl hr hI hX hBx hlt hs hk hq (not_prefix (by rw [hg]; simp; exact fun e => hq e.symm))
theorem WI_own (W0 : World) (p : PatchL) (g10 : Nat) (h : g10 ≤ W0.heap.size) : OwnFrom W0.heap.size (WI W0 p g10) :=
  OwnFrom.and (OwnFrom.and (Own.from (boxed_own g10 3 (fun pre : List (Bool × QuadL) => .int .i64 (pre.length : Int))) _) (ownFrom_pure _ _)) (ownFrom_below h h)
theorem WX_own (W0 : World) (p : PatchL) (g10 : Nat) (st : Int) (kk : Nat) (h : g10 ≤ W0.heap.size) (c : Code) : OwnFrom W0.heap.size (WX W0 p g10 st kk c) := by
  intro pre X Y row hs hg hr
  rcases hs with ⟨h1, h2, h3, h4, h5⟩ | hs
  · exact .inl ⟨h1, h2, h3, Own.from (boxed_own g10 3 (fun pre : List (Bool × QuadL) => .int .i64 (pre.length : Int))) _ pre X Y row h4 hg hr, ownFrom_below h h pre X Y row h5 hg hr⟩
  · exact .inr hs
set_option maxHeartbeats 4000000 in
theorem pass_l (n : Nat) (hn : 10 ≤ n) (W0 : World) (p : PatchL) (a0 a1 : Option Addr) (c0 c1 n₀ g3 g4 g5 g6 g7 g8 g9 g10 gE : Nat) (st inn : Int) (kk : Nat) (PA : PassAt W0 p (.slice a0 p.minus.length c0) (.slice a1 p.plus.length c1) n₀ g3 g4 g5 g6 g7 g8 g9 g10 gE st inn kk)
    (y0 y1 y2 y11 y12 y13 y14 y15 y16 y17 y18 y19 y20 y21 y22 y23 y24 y25 y26 y27 y28 y30 y31 y32 y33 y34 y35 y36 y37 y38 y39 y40 y41 y42 y43 y44 y45 y46 y47 y48 y49 y50 y51 y52 y53 y54 y55 y56 y57 y58 y59 y60 y61 y62 y63 y64 y65 y66 y67 y68 y69 y70 y71 y72 y73 y74 y75 y76 y77 y78 y79 y80 y81 y82 y83 y84 y85 y86 y87 y88 y89 y90 y91 y92 y93 y94 y95 y96 y97 y98 y99 y100 y101 y102 y103 y104 y105 y106 y107 : Value) (ds : List Deferred) (hg10 : Boxed W0 g10 3 (.int .i64 0)) (Q : Exit → Act → World → Prop)
    (hQ : ∀ (D : Nat) (W : World) (v : Nat), W0.heap.size ≤ D → W.heap[D]? = some (.deferred (some [])) → Boxed W g10 3 (.int .i64 (v : Int)) → Below g10 W0 W → (v = p.minus.length + p.plus.length ∨ (kk = 0 ∧ ((v : Int) == wrap64 (st + 1)) = true)) → v ≤ p.minus.length + p.plus.length →
      Q .normal { tmps := #[y0, y1, y2, .pointer (some ⟨g3, 0, none⟩), .pointer (some ⟨g4, 0, none⟩), .pointer (some ⟨g5, 0, none⟩), .pointer (some ⟨g6, 0, none⟩), .pointer (some ⟨g7, 0, none⟩), .pointer (some ⟨g8, 0, none⟩), .pointer (some ⟨g9, 0, none⟩), .pointer (some ⟨g10, 0, none⟩), y11, y12, y13, y14, y15, y16, y17, y18, y19, y20, y21, y22, y23, y24, y25, y26, y27, y28, .func (.func 5) #[] #[.pointer (some ⟨gE, 0, none⟩)], y30, y31, y32, y33, y34, y35, y36, y37, y38, y39, y40, y41, y42, y43, y44, y45, y46, y47, y48, y49, y50, y51, y52, y53, y54, y55, y56, y57, y58, y59, y60, y61, y62, y63, y64, y65, y66, y67, y68, y69, y70, y71, y72, y73, y74, y75, y76, y77, y78, y79, y80, y81, y82, y83, y84, y85, y86, y87, y88, y89, y90, y91, y92, y93, y94, y95, y96, y97, y98, y99, y100, y101, y102, y103, y104, y105, y106, y107], defers := { target := .collected D, args := #[] } :: ds } W) :
    walkCode.wpIn Fence.wide n Try.prog (Exit.inBlock 2 Q) { tmps := #[y0, y1, y2, .pointer (some ⟨g3, 0, none⟩), .pointer (some ⟨g4, 0, none⟩), .pointer (some ⟨g5, 0, none⟩), .pointer (some ⟨g6, 0, none⟩), .pointer (some ⟨g7, 0, none⟩), .pointer (some ⟨g8, 0, none⟩), .pointer (some ⟨g9, 0, none⟩), .pointer (some ⟨g10, 0, none⟩), y11, y12, y13, y14, y15, y16, y17, y18, y19, y20, y21, y22, y23, y24, y25, y26, y27, y28, .func (.func 5) #[] #[.pointer (some ⟨gE, 0, none⟩)], y30, y31, y32, y33, y34, y35, y36, y37, y38, y39, y40, y41, y42, y43, y44, y45, y46, y47, y48, y49, y50, y51, y52, y53, y54, y55, y56, y57, y58, y59, y60, y61, y62, y63, y64, y65, y66, y67, y68, y69, y70, y71, y72, y73, y74, y75, y76, y77, y78, y79, y80, y81, y82, y83, y84, y85, y86, y87, y88, y89, y90, y91, y92, y93, y94, y95, y96, y97, y98, y99, y100, y101, y102, y103, y104, y105, y106, y107], defers := ds } W0 := by
  have hlen := walkL_len p
  obtain ⟨hn0, h3, h4n, h4, h5, h6n, h6, h7, h8, h9, hE, h10⟩ := PA.lt
  conv => arg 4; whnf
  refine wpIn_rangeFunc_ownH (ps := #[30, 31]) (encs := encW) rfl (by omega) (gf := 5) (lb := #[.pointer (some ⟨gE, 0, none⟩)]) rfl trivial (enters_of Try.func5 (by kernel_rfl) rfl)
    (each_stops Fence.wide (n - 1) trivial rfl (by omega) gE n₀ p _ _ W0 (by omega) (by omega) (PA.bE.cell 0 _ rfl) (PA.bE.cell 1 _ rfl) (fun W' h => PA.view W' h) ⟨by have := PA.len.1; omega, by have := PA.len.2; omega⟩) belowK_t (belowK_b (by omega)) (Below.refl _ _) (fun _ => rfl)
    (WI W0 p g10) (WX W0 p g10 st kk) (WI_own W0 p g10 (by omega)) (WX_own W0 p g10 st kk (by omega))
    ⟨⟨hg10, List.nil_prefix⟩, Below.refl _ _⟩
    (fun x a' W => ∃ Bx, g10 < Bx ∧ BoxN W Bx 31 #[.int .i64 x.2.s.kind, .string (B x.2.s.text), .string (B x.2.s.type), .string (B x.2.s.lang), .int .i64 x.2.p.kind, .string (B x.2.p.text), .string (B x.2.p.type), .string (B x.2.p.lang), .int .i64 x.2.o.kind, .string (B x.2.o.text), .string (B x.2.o.type), .string (B x.2.o.lang), .int .i64 x.2.g.kind, .string (B x.2.g.text), .string (B x.2.g.type), .string (B x.2.g.lang)] ∧ a' = { tmps := #[y0, y1, y2, .pointer (some ⟨g3, 0, none⟩), .pointer (some ⟨g4, 0, none⟩), .pointer (some ⟨g5, 0, none⟩), .pointer (some ⟨g6, 0, none⟩), .pointer (some ⟨g7, 0, none⟩), .pointer (some ⟨g8, 0, none⟩), .pointer (some ⟨g9, 0, none⟩), .pointer (some ⟨g10, 0, none⟩), .bool x.1, .pointer (some ⟨Bx, 0, none⟩), y13, y14, y15, y16, y17, y18, y19, y20, y21, y22, y23, y24, y25, y26, y27, y28, .func (.func 5) #[] #[.pointer (some ⟨gE, 0, none⟩)], .bool x.1, .agg #[.int .i64 x.2.s.kind, .string (B x.2.s.text), .string (B x.2.s.type), .string (B x.2.s.lang), .int .i64 x.2.p.kind, .string (B x.2.p.text), .string (B x.2.p.type), .string (B x.2.p.lang), .int .i64 x.2.o.kind, .string (B x.2.o.text), .string (B x.2.o.type), .string (B x.2.o.lang), .int .i64 x.2.g.kind, .string (B x.2.g.text), .string (B x.2.g.type), .string (B x.2.g.lang)], y32, y33, y34, y35, y36, y37, y38, y39, y40, y41, y42, y43, y44, y45, y46, y47, y48, y49, y50, y51, y52, y53, y54, y55, y56, y57, y58, y59, y60, y61, y62, y63, y64, y65, y66, y67, y68, y69, y70, y71, y72, y73, y74, y75, y76, y77, y78, y79, y80, y81, y82, y83, y84, y85, y86, y87, y88, y89, y90, y91, y92, y93, y94, y95, y96, y97, y98, y99, y100, y101, y102, y103, y104, y105, y106, y107], defers := [] })
    (fun x a' _ X Y row hs hg hr => by obtain ⟨Bx, h1, h2, h3⟩ := hs; exact ⟨Bx, h1, boxN_own Bx 31 (fun (_ : Unit) => #[.int .i64 x.2.s.kind, .string (B x.2.s.text), .string (B x.2.s.type), .string (B x.2.s.lang), .int .i64 x.2.p.kind, .string (B x.2.p.text), .string (B x.2.p.type), .string (B x.2.p.lang), .int .i64 x.2.o.kind, .string (B x.2.o.text), .string (B x.2.o.type), .string (B x.2.o.lang), .int .i64 x.2.g.kind, .string (B x.2.g.text), .string (B x.2.g.type), .string (B x.2.g.lang)]) () X Y row h2 hg (fun r e => (hr r e).2), h3⟩)
    ?assign ?body ?done ?stop
  case assign =>
    rintro l pre x W K hi hK
    have hsz := hi.2.size
    gi_wp2
    exact hK _ _ ((KeepsOthers.alloc _ _).from _) ((Below.refl _ W).alloc (by have := hi.1.1.lt; omega) _) ⟨⟨hi.1.1.alloc _, hi.1.2⟩, hi.2.alloc (Nat.le_of_lt hi.1.1.lt) _⟩ ⟨W.heap.size, hi.1.1.lt, BoxN.new W 31 _, rfl⟩
  case body =>
    rintro l pre x a' W hl hr hI ⟨Bx, hBx, hX, rfl⟩ hlt
    have hWW : W0.heap.size ≤ W.heap.size := by
      obtain ⟨r, hr⟩ := hr
      have := (Array.getElem?_eq_some_iff.1 hr).1
      omega
    exact body_all n (by omega) W0 p a0 a1 c0 c1 n₀ g3 g4 g5 g6 g7 g8 g9 g10 gE st inn kk PA y0 y1 y2 y11 y12 y13 y14 y15 y16 y17 y18 y19 y20 y21 y22 y23 y24 y25 y26 y27 y28 y30 y31 y32 y33 y34 y35 y36 y37 y38 y39 y40 y41 y42 y43 y44 y45 y46 y47 y48 y49 y50 y51 y52 y53 y54 y55 y56 y57 y58 y59 y60 y61 y62 y63 y64 y65 y66 y67 y68 y69 y70 y71 y72 y73 y74 y75 y76 y77 y78 y79 y80 y81 y82 y83 y84 y85 y86 y87 y88 y89 y90 y91 y92 y93 y94 y95 y96 y97 y98 y99 y100 y101 y102 y103 y104 y105 y106 y107 l pre x W Bx hWW hl hr hI hX hBx hlt
  case done =>
    rintro D ys W hD rfl hI hK
    exact hQ D W _ hD hK hI.1.1 hI.2 (.inl hlen) (by omega)
  case stop =>
    rintro D c pre W hD hSp hX hK
    rcases hX with ⟨rfl, h0, hs, hb, hB⟩ | ⟨rfl, hnp⟩
    · exact wpIn_exit (hQ D W _ hD hK hb hB (.inr ⟨h0, hs⟩) (by have := hSp.length_le; omega))
    · exact absurd hSp hnp
/-- the second time round -/
theorem pass_next {W0 W : World} {p : PatchL} {mv pv : Value} {n₀ g3 g4 g5 g6 g7 g8 g9 g10 gE : Nat} {st inn : Int} (PA : PassAt W0 p mv pv n₀ g3 g4 g5 g6 g7 g8 g9 g10 gE st inn 0) (hB : Below g10 W0 W) :
    PassAt ((W.alloc (.cells #[.int .i64 1] 3)).alloc (.cells #[.int .i64 0] 3)) p mv pv n₀ g3 g4 g5 g6 g7 g8 W.heap.size (W.heap.size + 1) gE st inn 1 := by
  obtain ⟨hn0, h3, h4n, h4, h5, h6n, h6, h7, h8, h9, hE, h10⟩ := PA.lt
  have hz := hB.size
  have b9 := (Boxed.new W 3 (.int .i64 1)).alloc (.cells #[.int .i64 0] 3)
  exact ⟨((PA.b3.below hB h3).alloc _).alloc _, ((boxed_below PA.b4 hB h4).alloc _).alloc _, ((boxed_below PA.b5 hB h5).alloc _).alloc _, ((boxed_below PA.b6 hB h6).alloc _).alloc _, ((boxed_below PA.b7 hB h7).alloc _).alloc _,
    ((boxed_below PA.b8 hB h8).alloc _).alloc _, b9, ((PA.bE.below hB hE).alloc _).alloc _, ⟨hn0, by omega, h4n, by omega, by omega, h6n, by omega, by omega, by omega, by omega, by omega, by simp⟩,
    fun W' h => PA.view W' ((hB.mono (by omega)).trans (((Below.refl n₀ W).alloc (by omega) _).alloc (by simp; omega) _ |>.trans h)), PA.len, PA.st⟩
/-- a patch seen as two lists -/
def PViewW (w : World) (mv pv : Value) (p : PatchL) : Prop := QView w mv p.minus ∧ QView w pv p.plus
/-- the first time round -/
theorem pass_first (w : World) (p : PatchL) (a0 a1 : Option Addr) (c0 c1 : Nat) (st inn : Int) (hv : PViewW w (.slice a0 p.minus.length c0) (.slice a1 p.plus.length c1) p) (hl : p.minus.length ≤ 1152921504606846976 ∧ p.plus.length ≤ 1152921504606846976) (hst : -9223372036854775808 ≤ st ∧ st ≤ 9223372036854775807) :
    PassAt (((((((((w.alloc (.cells #[.slice a0 p.minus.length c0, .slice a1 p.plus.length c1] 24)).alloc (.cells #[.int .i64 st] 3)).alloc (.cells #[.int .i64 inn] 3)).alloc (.cells #[.bool false] 4)).alloc (.cells #[.slice a0 p.minus.length c0, .slice a1 p.plus.length c1] 24)).alloc (.cells #[.func (.func 5) #[] #[.pointer (some ⟨w.heap.size + 1 + 1 + 1 + 1, 0, none⟩)]] 26)).alloc (.cells #[.int .i64 ((p.minus.length : Int) + (p.plus.length : Int))] 3)).alloc (.cells #[.int .i64 0] 3)).alloc (.cells #[.int .i64 0] 3))
      p (.slice a0 p.minus.length c0) (.slice a1 p.plus.length c1) w.heap.size w.heap.size (w.heap.size + 1) (w.heap.size + 1 + 1) (w.heap.size + 1 + 1 + 1) (w.heap.size + 1 + 1 + 1 + 1 + 1) (w.heap.size + 1 + 1 + 1 + 1 + 1 + 1) (w.heap.size + 1 + 1 + 1 + 1 + 1 + 1 + 1) (w.heap.size + 1 + 1 + 1 + 1 + 1 + 1 + 1 + 1) (w.heap.size + 1 + 1 + 1 + 1) st inn 0 := by
  generalize hA : Obj.cells #[.slice a0 p.minus.length c0, .slice a1 p.plus.length c1] 24 = A
  have hn : ∀ (u : World) (o : Obj), (u.alloc o).heap[u.heap.size]? = some o := fun u o => World.alloc_heap_new u o
  have ho : ∀ (u : World) (o : Obj) (k : Nat) (x : Obj), u.heap[k]? = some x → (u.alloc o).heap[k]? = some x := fun u o k x h => (Below.heap_alloc u o k (Array.getElem?_eq_some_iff.1 h).1).trans h
  have hz : ∀ (u : World) (o : Obj), (u.alloc o).heap.size = u.heap.size + 1 := fun u o => World.size_alloc u o
  generalize e1 : w.alloc A = w1
  generalize e2 : w1.alloc (.cells #[.int .i64 st] 3) = w2
  generalize e3 : w2.alloc (.cells #[.int .i64 inn] 3) = w3
  generalize e4 : w3.alloc (.cells #[.bool false] 4) = w4
  generalize e5 : w4.alloc A = w5
  generalize e6 : w5.alloc (.cells #[.func (.func 5) #[] #[.pointer (some ⟨w.heap.size + 1 + 1 + 1 + 1, 0, none⟩)]] 26) = w6
  generalize e7 : w6.alloc (.cells #[.int .i64 ((p.minus.length : Int) + (p.plus.length : Int))] 3) = w7
  generalize e8 : w7.alloc (.cells #[.int .i64 0] 3) = w8
  generalize e9 : w8.alloc (.cells #[.int .i64 0] 3) = w9
  have z1 := hz w A
  have z2 := hz w1 (.cells #[.int .i64 st] 3)
  have z3 := hz w2 (.cells #[.int .i64 inn] 3)
  have z4 := hz w3 (.cells #[.bool false] 4)
  have z5 := hz w4 A
  have z6 := hz w5 (.cells #[.func (.func 5) #[] #[.pointer (some ⟨w.heap.size + 1 + 1 + 1 + 1, 0, none⟩)]] 26)
  have z7 := hz w6 (.cells #[.int .i64 ((p.minus.length : Int) + (p.plus.length : Int))] 3)
  have z8 := hz w7 (.cells #[.int .i64 0] 3)
  have z9 := hz w8 (.cells #[.int .i64 0] 3)
  rw [e1] at z1; rw [e2] at z2; rw [e3] at z3; rw [e4] at z4; rw [e5] at z5; rw [e6] at z6; rw [e7] at z7; rw [e8] at z8; rw [e9] at z9
  have k1 := hn w A
  have k2 := hn w1 (.cells #[.int .i64 st] 3)
  have k3 := hn w2 (.cells #[.int .i64 inn] 3)
  have k4 := hn w3 (.cells #[.bool false] 4)
  have k5 := hn w4 A
  have k6 := hn w5 (.cells #[.func (.func 5) #[] #[.pointer (some ⟨w.heap.size + 1 + 1 + 1 + 1, 0, none⟩)]] 26)
  have k7 := hn w6 (.cells #[.int .i64 ((p.minus.length : Int) + (p.plus.length : Int))] 3)
  have k8 := hn w7 (.cells #[.int .i64 0] 3)
  rw [e1] at k1; rw [e2] at k2; rw [e3] at k3; rw [e4] at k4; rw [e5] at k5; rw [e6] at k6; rw [e7] at k7; rw [e8] at k8
  have l2 : ∀ k x, w1.heap[k]? = some x → w2.heap[k]? = some x := fun k x h => by rw [← e2]; exact ho _ _ k x h
  have l3 : ∀ k x, w2.heap[k]? = some x → w3.heap[k]? = some x := fun k x h => by rw [← e3]; exact ho _ _ k x h
  have l4 : ∀ k x, w3.heap[k]? = some x → w4.heap[k]? = some x := fun k x h => by rw [← e4]; exact ho _ _ k x h
  have l5 : ∀ k x, w4.heap[k]? = some x → w5.heap[k]? = some x := fun k x h => by rw [← e5]; exact ho _ _ k x h
  have l6 : ∀ k x, w5.heap[k]? = some x → w6.heap[k]? = some x := fun k x h => by rw [← e6]; exact ho _ _ k x h
  have l7 : ∀ k x, w6.heap[k]? = some x → w7.heap[k]? = some x := fun k x h => by rw [← e7]; exact ho _ _ k x h
  have l8 : ∀ k x, w7.heap[k]? = some x → w8.heap[k]? = some x := fun k x h => by rw [← e8]; exact ho _ _ k x h
  have l9 : ∀ k x, w8.heap[k]? = some x → w9.heap[k]? = some x := fun k x h => by rw [← e9]; exact ho _ _ k x h
  have hB : Below w.heap.size w w9 := by
    rw [← e9, ← e8, ← e7, ← e6, ← e5, ← e4, ← e3, ← e2, ← e1]
    exact (((((((((Below.refl _ w).alloc (Nat.le_refl _) _).alloc (by rw [e1]; omega) _).alloc (by rw [e1, e2]; omega) _).alloc (by rw [e1, e2, e3]; omega) _).alloc (by rw [e1, e2, e3, e4]; omega) _).alloc (by rw [e1, e2, e3, e4, e5]; omega) _).alloc (by rw [e1, e2, e3, e4, e5, e6]; omega) _).alloc (by rw [e1, e2, e3, e4, e5, e6, e7]; omega) _).alloc (by rw [e1, e2, e3, e4, e5, e6, e7, e8]; omega) _
  rw [z1] at k2
  rw [z2, z1] at k3
  rw [z3, z2, z1] at k4
  rw [z4, z3, z2, z1] at k5
  rw [z5, z4, z3, z2, z1] at k6
  rw [z6, z5, z4, z3, z2, z1] at k7
  rw [z7, z6, z5, z4, z3, z2, z1] at k8
  subst hA
  exact ⟨l9 _ _ (l8 _ _ (l7 _ _ (l6 _ _ (l5 _ _ (l4 _ _ (l3 _ _ (l2 _ _ k1))))))), l9 _ _ (l8 _ _ (l7 _ _ (l6 _ _ (l5 _ _ (l4 _ _ (l3 _ _ k2)))))), l9 _ _ (l8 _ _ (l7 _ _ (l6 _ _ (l5 _ _ (l4 _ _ k3))))), l9 _ _ (l8 _ _ (l7 _ _ (l6 _ _ (l5 _ _ k4)))),
    l9 _ _ (l8 _ _ (l7 _ _ k6)), l9 _ _ (l8 _ _ k7), l9 _ _ k8, l9 _ _ (l8 _ _ (l7 _ _ (l6 _ _ k5))), ⟨by omega, by omega, by omega, by omega, by omega, by omega, by omega, by omega, by omega, by omega, by omega, by omega⟩,
    fun W' h => ⟨hv.1.below (hB.trans h), hv.2.below (hB.trans h)⟩, hl, hst⟩
set_option maxHeartbeats 16000000 in
theorem walks_l (p : PatchL) (a0 a1 : Option Addr) (c0 c1 : Nat) (st inn : Int) (w : World) (hv : PViewW w (.slice a0 p.minus.length c0) (.slice a1 p.plus.length c1) p) (hl : p.minus.length ≤ 1152921504606846976 ∧ p.plus.length ≤ 1152921504606846976) (hst : -9223372036854775808 ≤ st ∧ st ≤ 9223372036854775807) :
    Calls Try.prog 3 #[.agg #[.slice a0 p.minus.length c0, .slice a1 p.plus.length c1], .int .i64 st, .int .i64 inn] w fun e w' => e = .returned (.bool true) ∧ Below w.heap.size w w' := by
  have P1 := Lib.hid (pass_first w p a0 a1 c0 c1 st inn hv hl hst)
  have ef : ∀ (u : World) (c : Array Value), (binOp .eql 26 (.func (.func 5) #[] c) .nilFunc).run Try.prog u = .ok (.bool false) u := fun _ _ => by kernel_rfl
  have hl1 := hl.1
  have hl2 := hl.2
  refine (callsIn_wide (n := 12)).1 ?_
  refine callsIn_of_wp_marks Try.func3 rfl trivial ?_ rfl
  simp only [Try.ntmps3, List.size_toArray, List.length_cons, List.length_nil, Nat.reduceAdd, Nat.reduceSub, Array.replicate_succ, Array.replicate_zero, List.push_toArray, List.append_toArray, List.nil_append, List.cons_append]
  clear hv hl hst
  gi_wp2_with (refine ⟨trivial, ?_⟩; gi_at_call 4; refine (each_in Fence.wide _ trivial rfl _ _ _).mono ?_; rintro e w' ⟨rfl, rfl⟩)
  refine wpIn_loop_rounds 3 ?_
  rw [roundsIn_succ]
  gi_wp2_with fail
  generalize hW0 : ((((((((w.alloc (.cells #[.slice a0 p.minus.length c0, .slice a1 p.plus.length c1] 24)).alloc (.cells #[.int .i64 st] 3)).alloc (.cells #[.int .i64 inn] 3)).alloc (.cells #[.bool false] 4)).alloc (.cells #[.slice a0 p.minus.length c0, .slice a1 p.plus.length c1] 24)).alloc (.cells #[.func (.func 5) #[] #[.pointer (some ⟨w.heap.size + 1 + 1 + 1 + 1, 0, none⟩)]] 26)).alloc (.cells #[.int .i64 ((p.minus.length : Int) + (p.plus.length : Int))] 3)).alloc (.cells #[.int .i64 0] 3)).alloc (.cells #[.int .i64 0] 3) = W0 at P1 ⊢
  have hB0 : Hid (Below w.heap.size w W0) := Lib.hid (by
    rw [← hW0]
    exact (((((((((Below.refl _ w).alloc (Nat.le_refl _) _).alloc (by simp) _).alloc (by simp; omega) _).alloc (by simp; omega) _).alloc (by simp; omega) _).alloc (by simp; omega) _).alloc (by simp; omega) _).alloc (by simp; omega) _).alloc (by simp; omega) _)
  have hg : Boxed W0 (w.heap.size + 1 + 1 + 1 + 1 + 1 + 1 + 1 + 1) 3 (.int .i64 0) := by
    rw [← hW0]
    have := Boxed.new ((((((((w.alloc (.cells #[.slice a0 p.minus.length c0, .slice a1 p.plus.length c1] 24)).alloc (.cells #[.int .i64 st] 3)).alloc (.cells #[.int .i64 inn] 3)).alloc (.cells #[.bool false] 4)).alloc (.cells #[.slice a0 p.minus.length c0, .slice a1 p.plus.length c1] 24)).alloc (.cells #[.func (.func 5) #[] #[.pointer (some ⟨w.heap.size + 1 + 1 + 1 + 1, 0, none⟩)]] 26)).alloc (.cells #[.int .i64 ((p.minus.length : Int) + (p.plus.length : Int))] 3)).alloc (.cells #[.int .i64 0] 3)) 3 (.int .i64 0)
    simpa only [World.size_alloc] using this
  clear hW0
  refine pass_l 12 (by omega) W0 p a0 a1 c0 c1 _ _ _ _ _ _ _ _ _ _ st inn 0 P1.out _ _ _ _ _ _ _ _ _ _ _ _ _ _ _ _ _ _ _ _ _ _ _ _ _ _ _ _ _ _ _ _ _ _ _ _ _ _ _ _ _ _ _ _ _ _ _ _ _ _ _ _ _ _ _ _ _ _ _ _ _ _ _ _ _ _ _ _ _ _ _ _ _ _ _ _ _ _ _ _ _ _ _ _ _ _ _ _ _ _ _ _ _ _ _ _ _ _ _ [] hg _ ?_
  intro D W v hD hK hb hB hv hvl
  by_cases hvn : v = p.minus.length + p.plus.length
  · subst hvn
    rw [Int.natCast_add] at hb
    have c10 := hb.cell
    have PA := P1.out
    have h10 := PA.lt.2.2.2.2.2.2.2.2.2.2.2
    have c8 := (boxed_below PA.b8 hB (by omega)).cell
    have c9 := (boxed_below PA.b9 hB (by omega)).cell
    have c4 := (boxed_below PA.b4 hB (by omega)).cell
    have hzW := hB.size
    have lW : w.heap.size + 1 + 1 + 1 + 1 + 1 + 1 + 1 + 1 < W.heap.size := by omega
    have l7 : w.heap.size + 1 + 1 + 1 + 1 + 1 + 1 + 1 < W.heap.size := by omega
    have c7 := (boxed_below PA.b7 hB (by omega)).cell
    have l5 : w.heap.size + 1 + 1 + 1 + 1 + 1 < W.heap.size := by omega
    have l5' : w.heap.size + 1 + 1 + 1 + 1 + 1 < W.heap.size + 1 := by omega
    have l5n : w.heap.size + 1 + 1 + 1 + 1 + 1 ≠ W.heap.size := by omega
    have l5m : w.heap.size + 1 + 1 + 1 + 1 + 1 ≠ W.heap.size + 1 := by omega
    have l6D0 : w.heap.size + 1 + 1 + 1 < D := by omega
    have PN := Lib.hid (pass_next PA hB)
    have HK := Lib.hid hK
    have HBw := Lib.hid (hB0.out.trans (hB.mono (by omega)))
    have HDs := Lib.hid hD
    clear hb hB hK PA P1 hB0 hg hD hzW h10
    gi_wp2_with fail
    rw [roundsIn_succ]
    gi_wp2_with fail
    generalize hW2 : (W.alloc (.cells #[.int .i64 1] 3)).alloc (.cells #[.int .i64 0] 3) = W2 at PN ⊢
    have hB2 : Hid (Below W.heap.size W W2) := Lib.hid (by
      rw [← hW2]
      exact ((Below.refl _ W).alloc (Nat.le_refl _) _).alloc (by simp) _)
    have hg2 : Boxed W2 (W.heap.size + 1) 3 (.int .i64 0) := by
      rw [← hW2]
      have := Boxed.new (W.alloc (.cells #[.int .i64 1] 3)) 3 (.int .i64 0)
      simpa only [World.size_alloc] using this
    clear hW2 c10 c8 c9 c4 c7
    refine pass_l 12 (by omega) W2 p a0 a1 c0 c1 _ _ _ _ _ _ _ _ _ _ st inn 1 PN.out _ _ _ _ _ _ _ _ _ _ _ _ _ _ _ _ _ _ _ _ _ _ _ _ _ _ _ _ _ _ _ _ _ _ _ _ _ _ _ _ _ _ _ _ _ _ _ _ _ _ _ _ _ _ _ _ _ _ _ _ _ _ _ _ _ _ _ _ _ _ _ _ _ _ _ _ _ _ _ _ _ _ _ _ _ _ _ _ _ _ _ _ _ _ _ _ _ _ _ [{ target := .collected D, args := #[] }] hg2 _ ?_
    intro D2 W3 v2 hD2 hK2 hb2 hB3 hv2 hvl2
    have hv2' : v2 = p.minus.length + p.plus.length := by
      rcases hv2 with h | ⟨h, _⟩
      · exact h
      · cases h
    subst hv2'
    rw [Int.natCast_add] at hb2
    have c10 := hb2.cell
    have PA := PN.out
    have h10 := PA.lt.2.2.2.2.2.2.2.2.2.2.2
    have hgl := PA.lt.2.2.2.2.2.2.2.2.2.1
    have hz2 := hB2.out.size
    have c8 := (boxed_below PA.b8 hB3 (by omega)).cell
    have c9 := (boxed_below PA.b9 hB3 (by omega)).cell
    have c4 := (boxed_below PA.b4 hB3 (by omega)).cell
    have c6 := (boxed_below PA.b6 hB3 (by omega)).cell
    have f6 := (boxed_below PA.b6 hB3 (by omega)).frozen
    have b6 := Lib.hid (boxed_below PA.b6 hB3 (by omega))
    have hz3 := hB3.size
    have lW9 : W.heap.size < W3.heap.size := by omega
    have l6 : w.heap.size + 1 + 1 + 1 < W3.heap.size := by omega
    have hDlt : D < W.heap.size := (Array.getElem?_eq_some_iff.1 HK.out).1
    have HK3 : Hid (W3.heap[D]? = some (.deferred (some []))) := Lib.hid ((hB3.block D (by omega)).trans ((hB2.out.block D hDlt).trans HK.out))
    have HK2 := Lib.hid hK2
    have HB3 : Hid (Below w.heap.size w W3) := Lib.hid ((HBw.out.trans (hB2.out.mono (by omega))).trans (hB3.mono (by omega)))
    have hDD : D < D2 := by omega
    have ne6 : w.heap.size + 1 + 1 + 1 ≠ W3.heap.size := by omega
    have l6D : w.heap.size + 1 + 1 + 1 < D := l6D0
    clear hb2 hB3 hK2 PA PN hv2 hvl2 hD2 hz2 hz3 h10 hgl hg2
    gi_wp2_with fail
    rw [roundsIn_succ]
    gi_wp2_with fail
    have hzF := W3.size_alloc (.cells #[.int .i64 2] 3)
    have bF : Boxed ((W3.setCell ⟨w.heap.size + 1 + 1 + 1, 0, none⟩ (.bool true)).alloc (.cells #[.int .i64 2] 3)) (w.heap.size + 1 + 1 + 1) 4 (.bool true) := (b6.out.set (.bool true)).alloc _
    have hs3 : (W3.setCell ⟨w.heap.size + 1 + 1 + 1, 0, none⟩ (.bool true)).heap.size = W3.heap.size := by simp
    have hD3 : D2 < W3.heap.size := (Array.getElem?_eq_some_iff.1 HK2.out).1
    have hKF2 : ((W3.setCell ⟨w.heap.size + 1 + 1 + 1, 0, none⟩ (.bool true)).alloc (.cells #[.int .i64 2] 3)).heap[D2]? = some (.deferred (some [])) := (Below.heap_alloc _ _ _ (by omega)).trans ((KeepsOthers.setCell _ _ _).same D2 _ HK2.out rfl)
    have hKF1 : ((W3.setCell ⟨w.heap.size + 1 + 1 + 1, 0, none⟩ (.bool true)).alloc (.cells #[.int .i64 2] 3)).heap[D]? = some (.deferred (some [])) := (Below.heap_alloc _ _ _ (by omega)).trans ((KeepsOthers.setCell _ _ _).same D _ HK3.out rfl)
    have hBF : Below w.heap.size w ((W3.setCell ⟨w.heap.size + 1 + 1 + 1, 0, none⟩ (.bool true)).alloc (.cells #[.int .i64 2] 3)) := (HB3.out.setCell (p := ⟨w.heap.size + 1 + 1 + 1, 0, none⟩) (by simp; omega) _).alloc (by omega) _
    generalize (W3.setCell ⟨w.heap.size + 1 + 1 + 1, 0, none⟩ (.bool true)).alloc (.cells #[.int .i64 2] 3) = WF at bF hKF2 hKF1 hBF ⊢
    have hK1' : (WF.putObj D2 (.deferred none)).heap[D]? = some (.deferred (some [])) := (World.putObj_heap_other (by omega)).trans hKF1
    have b1 : Boxed (WF.putObj D2 (.deferred none)) (w.heap.size + 1 + 1 + 1) 4 (.bool true) := bF.kept (grownBy_putObj' _ D2 _) (fun e => by cases e; omega)
    have b2 : Boxed ((WF.putObj D2 (.deferred none)).putObj D (.deferred none)) (w.heap.size + 1 + 1 + 1) 4 (.bool true) := b1.kept (grownBy_putObj' _ D _) (fun e => by cases e; omega)
    have hB1 := hBF.trans (belowK_b (w := w) (Nat.le_refl _) WF D2 _ (.deferred none) (by omega) hKF2 rfl rfl)
    have hB2' := hB1.trans (belowK_b (w := w) (Nat.le_refl _) (WF.putObj D2 (.deferred none)) D _ (.deferred none) (by omega) hK1' rfl rfl)
    have hc := b2.cell
    refine ⟨by simp, .inl ⟨D2, _, rfl, run_takeDeferred hKF2, ?_⟩⟩
    refine ⟨by simp, .inl ⟨D, _, rfl, run_takeDeferred hK1', ?_⟩⟩
    exact ⟨.bool true, by simp [results, Try.results3, go_sem, hc], rfl, hB2'⟩
  · have hs : ((v : Int) == wrap64 (st + 1)) = true := by
      rcases hv with h | ⟨_, h⟩
      · exact absurd h hvn
      · exact h
    have t96 : ((v : Int) != (p.minus.length : Int) + (p.plus.length : Int)) = true := by
      rw [bne_iff_ne]
      omega
    have t104 : ((v : Int) != wrap64 (st + 1)) = false := by rw [bne, hs]; rfl
    clear hs hvn
    have c10 := hb.cell
    have PA := P1.out
    have h10 := PA.lt.2.2.2.2.2.2.2.2.2.2.2
    have c8 := (boxed_below PA.b8 hB (by omega)).cell
    have c9 := (boxed_below PA.b9 hB (by omega)).cell
    have c4 := (boxed_below PA.b4 hB (by omega)).cell
    have hzW := hB.size
    have lW : w.heap.size + 1 + 1 + 1 + 1 + 1 + 1 + 1 + 1 < W.heap.size := by omega
    have l7 : w.heap.size + 1 + 1 + 1 + 1 + 1 + 1 + 1 < W.heap.size := by omega
    have c7 := (boxed_below PA.b7 hB (by omega)).cell
    have l5 : w.heap.size + 1 + 1 + 1 + 1 + 1 < W.heap.size := by omega
    have l5' : w.heap.size + 1 + 1 + 1 + 1 + 1 < W.heap.size + 1 := by omega
    have l5n : w.heap.size + 1 + 1 + 1 + 1 + 1 ≠ W.heap.size := by omega
    have l5m : w.heap.size + 1 + 1 + 1 + 1 + 1 ≠ W.heap.size + 1 := by omega
    have l6D0 : w.heap.size + 1 + 1 + 1 < D := by omega
    have PN := Lib.hid (pass_next PA hB)
    have HK := Lib.hid hK
    have HBw := Lib.hid (hB0.out.trans (hB.mono (by omega)))
    have HDs := Lib.hid hD
    clear hb hB hK PA P1 hB0 hg hD hzW h10
    gi_wp2_with fail
    rw [roundsIn_succ]
    gi_wp2_with fail
    generalize hW2 : (W.alloc (.cells #[.int .i64 1] 3)).alloc (.cells #[.int .i64 0] 3) = W2 at PN ⊢
    have hB2 : Hid (Below W.heap.size W W2) := Lib.hid (by
      rw [← hW2]
      exact ((Below.refl _ W).alloc (Nat.le_refl _) _).alloc (by simp) _)
    have hg2 : Boxed W2 (W.heap.size + 1) 3 (.int .i64 0) := by
      rw [← hW2]
      have := Boxed.new (W.alloc (.cells #[.int .i64 1] 3)) 3 (.int .i64 0)
      simpa only [World.size_alloc] using this
    clear hW2 c10 c8 c9 c4 c7
    refine pass_l 12 (by omega) W2 p a0 a1 c0 c1 _ _ _ _ _ _ _ _ _ _ st inn 1 PN.out _ _ _ _ _ _ _ _ _ _ _ _ _ _ _ _ _ _ _ _ _ _ _ _ _ _ _ _ _ _ _ _ _ _ _ _ _ _ _ _ _ _ _ _ _ _ _ _ _ _ _ _ _ _ _ _ _ _ _ _ _ _ _ _ _ _ _ _ _ _ _ _ _ _ _ _ _ _ _ _ _ _ _ _ _ _ _ _ _ _ _ _ _ _ _ _ _ _ _ [{ target := .collected D, args := #[] }] hg2 _ ?_
    intro D2 W3 v2 hD2 hK2 hb2 hB3 hv2 hvl2
    have hv2' : v2 = p.minus.length + p.plus.length := by
      rcases hv2 with h | ⟨h, _⟩
      · exact h
      · cases h
    subst hv2'
    rw [Int.natCast_add] at hb2
    have c10 := hb2.cell
    have PA := PN.out
    have h10 := PA.lt.2.2.2.2.2.2.2.2.2.2.2
    have hgl := PA.lt.2.2.2.2.2.2.2.2.2.1
    have hz2 := hB2.out.size
    have c8 := (boxed_below PA.b8 hB3 (by omega)).cell
    have c9 := (boxed_below PA.b9 hB3 (by omega)).cell
    have c4 := (boxed_below PA.b4 hB3 (by omega)).cell
    have c6 := (boxed_below PA.b6 hB3 (by omega)).cell
    have f6 := (boxed_below PA.b6 hB3 (by omega)).frozen
    have b6 := Lib.hid (boxed_below PA.b6 hB3 (by omega))
    have hz3 := hB3.size
    have lW9 : W.heap.size < W3.heap.size := by omega
    have l6 : w.heap.size + 1 + 1 + 1 < W3.heap.size := by omega
    have hDlt : D < W.heap.size := (Array.getElem?_eq_some_iff.1 HK.out).1
    have HK3 : Hid (W3.heap[D]? = some (.deferred (some []))) := Lib.hid ((hB3.block D (by omega)).trans ((hB2.out.block D hDlt).trans HK.out))
    have HK2 := Lib.hid hK2
    have HB3 : Hid (Below w.heap.size w W3) := Lib.hid ((HBw.out.trans (hB2.out.mono (by omega))).trans (hB3.mono (by omega)))
    have hDD : D < D2 := by omega
    have ne6 : w.heap.size + 1 + 1 + 1 ≠ W3.heap.size := by omega
    have l6D : w.heap.size + 1 + 1 + 1 < D := l6D0
    clear hb2 hB3 hK2 PA PN hv2 hvl2 hD2 hz2 hz3 h10 hgl hg2
    gi_wp2_with fail
    rw [roundsIn_succ]
    gi_wp2_with fail
    have hzF := W3.size_alloc (.cells #[.int .i64 2] 3)
    have bF : Boxed ((W3.setCell ⟨w.heap.size + 1 + 1 + 1, 0, none⟩ (.bool true)).alloc (.cells #[.int .i64 2] 3)) (w.heap.size + 1 + 1 + 1) 4 (.bool true) := (b6.out.set (.bool true)).alloc _
    have hs3 : (W3.setCell ⟨w.heap.size + 1 + 1 + 1, 0, none⟩ (.bool true)).heap.size = W3.heap.size := by simp
    have hD3 : D2 < W3.heap.size := (Array.getElem?_eq_some_iff.1 HK2.out).1
    have hKF2 : ((W3.setCell ⟨w.heap.size + 1 + 1 + 1, 0, none⟩ (.bool true)).alloc (.cells #[.int .i64 2] 3)).heap[D2]? = some (.deferred (some [])) := (Below.heap_alloc _ _ _ (by omega)).trans ((KeepsOthers.setCell _ _ _).same D2 _ HK2.out rfl)
    have hKF1 : ((W3.setCell ⟨w.heap.size + 1 + 1 + 1, 0, none⟩ (.bool true)).alloc (.cells #[.int .i64 2] 3)).heap[D]? = some (.deferred (some [])) := (Below.heap_alloc _ _ _ (by omega)).trans ((KeepsOthers.setCell _ _ _).same D _ HK3.out rfl)
    have hBF : Below w.heap.size w ((W3.setCell ⟨w.heap.size + 1 + 1 + 1, 0, none⟩ (.bool true)).alloc (.cells #[.int .i64 2] 3)) := (HB3.out.setCell (p := ⟨w.heap.size + 1 + 1 + 1, 0, none⟩) (by simp; omega) _).alloc (by omega) _
    generalize (W3.setCell ⟨w.heap.size + 1 + 1 + 1, 0, none⟩ (.bool true)).alloc (.cells #[.int .i64 2] 3) = WF at bF hKF2 hKF1 hBF ⊢
    have hK1' : (WF.putObj D2 (.deferred none)).heap[D]? = some (.deferred (some [])) := (World.putObj_heap_other (by omega)).trans hKF1
    have b1 : Boxed (WF.putObj D2 (.deferred none)) (w.heap.size + 1 + 1 + 1) 4 (.bool true) := bF.kept (grownBy_putObj' _ D2 _) (fun e => by cases e; omega)
    have b2 : Boxed ((WF.putObj D2 (.deferred none)).putObj D (.deferred none)) (w.heap.size + 1 + 1 + 1) 4 (.bool true) := b1.kept (grownBy_putObj' _ D _) (fun e => by cases e; omega)
    have hB1 := hBF.trans (belowK_b (w := w) (Nat.le_refl _) WF D2 _ (.deferred none) (by omega) hKF2 rfl rfl)
    have hB2' := hB1.trans (belowK_b (w := w) (Nat.le_refl _) (WF.putObj D2 (.deferred none)) D _ (.deferred none) (by omega) hK1' rfl rfl)
    have hc := b2.cell
    refine ⟨by simp, .inl ⟨D2, _, rfl, run_takeDeferred hKF2, ?_⟩⟩
    refine ⟨by simp, .inl ⟨D, _, rfl, run_takeDeferred hK1', ?_⟩⟩
    exact ⟨.bool true, by simp [results, Try.results3, go_sem, hc], rfl, hB2'⟩
end Go.Proofs.Ythipcepgbegaiaa
