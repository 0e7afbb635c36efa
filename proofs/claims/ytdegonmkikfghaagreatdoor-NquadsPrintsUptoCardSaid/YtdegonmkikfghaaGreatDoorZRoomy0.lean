/-
  Copies of quads in rows of the call's own, rows written over: laws. By an AI agent.
-/
import Derived.Test.YtdegonmkikfghaaGreatDoorZLoadQ
import Derived.Test.YtdegonmkikfghaaGreatDoorZApp
import Derived.Laws.CopyRow
import Derived.Laws.OwnMore
import Derived.Maps.AppendAt
import Derived.Maps.Range
namespace Go.Proofs.YtdegonmkikfghaaGreatDoor
open Go.RowKit
set_option maxRecDepth 100000

theorem oneCell_quads (l : List QuadL) : ∀ u ∈ quadsC l, u.oneCell' = true := fun u hu => by
  obtain ⟨q, _, hq⟩ := List.mem_flatMap.1 hu
  exact oneCell_quad q u hq
theorem QAt.src {w : World} {ad : Addr} {l : List QuadL} (h : QAt w (some ad) l) : ∀ j v, (quadsC l)[j]? = some v → w.cell? (ad.add j) = some v := fun j v hj => by
  obtain ⟨hlt, rfl⟩ := List.getElem?_eq_some_iff.1 hj
  obtain ⟨b, o, he, hc⟩ := h j hlt
  cases he
  rw [Addr.add_mid]
  exact hc
theorem QAt.none_nil {w : World} {l : List QuadL} (h : QAt w none l) : l = [] := by
  rcases l with _ | ⟨q, r⟩
  · rfl
  · obtain ⟨b, o, he⟩ := h.place (by simp)
    cases he
/-- copy of quads into a row of the call's own that is as long -/
theorem run_copy_quads (ty : TypeId) (base g n cap : Nat) (xs : List Value) (w : World) (hown : w.ownsRow base 36 16 (.slice (some ⟨g, 0, none⟩) n cap) n xs) (a : Option Addr) (c : Nat) (l : List QuadL) (hl : l.length = n) (hq : QAt w a l) :
    ∃ w', (Builtin.copy_ #[22, 22] ty #[.slice (some ⟨g, 0, none⟩) n cap, .slice a n c]).run Tryz.prog w = .ok (goInt n) w' ∧ w'.ownsRow base 36 16 (.slice (some ⟨g, 0, none⟩) n cap) n (quadsC l) ∧ w.grownBy w' (some g) := by
  obtain ⟨i0, hi, hz0, hz1, hz2⟩ := info_parts infoQ
  have hu : Tryz.prog.underlying 22 = some (.slice 36) := Tryz.underlying22
  rcases hown.2 with ⟨h, _⟩ | ⟨g', cap', cur, h, hbg, hg, hnc, hcm, hcs, htake⟩
  · simp at h
  simp only [Value.slice.injEq, Option.some.injEq, Addr.mk.injEq, and_true, true_and] at h
  obtain ⟨rfl, rfl⟩ := h
  have hlen : (quadsC l).length = n * 16 := by rw [quadsC_len, hl]
  have hfit : (quadsC l).length ≤ cur.size := by rw [hlen, hcs]; exact Nat.mul_le_mul_right _ hnc
  have hst := run_storeCells_at Tryz.prog g 0 36 (quadsC l) 0 cur w hg (by simpa using hfit) (oneCell_quads l)
  have hown' : ∀ (vs : List Value), vs.length = n * 16 → (w.setRow g (cur.toList.take 0 ++ vs ++ cur.toList.drop (0 + vs.length)).toArray).ownsRow base 36 16 (.slice (some ⟨g, 0, none⟩) n cap) n vs ∧ w.grownBy (w.setRow g (cur.toList.take 0 ++ vs ++ cur.toList.drop (0 + vs.length)).toArray) (some g) := fun vs hv => by
    refine ⟨⟨hv, .inr ⟨g, cap, _, rfl, hbg, setRow_heap w g cur _ _ _ hg, hnc, hcm, ?_, ?_⟩⟩, ⟨rfl, rfl, rfl, by simp, fun k _ hk => setRow_other w g k _ (fun e => hk (by simp [e]))⟩⟩
    · have : n * 16 ≤ cap * 16 := Nat.mul_le_mul_right _ hnc
      simp only [List.size_toArray, List.length_append, List.length_take, List.length_drop, Array.length_toList, hv, hcs]
      omega
    · rw [← hv]
      simp
  cases a with
  | none =>
    obtain rfl := hq.none_nil
    obtain rfl : n = 0 := by simpa using hl.symm
    refine ⟨w, ?_, ?_, World.grownBy.refl _ _⟩
    · simp [Builtin.copy_, run_underlying hu, Builtin.lenOf, Builtin.firstCells, sizeOf, typeInfo, hi, storeCells]
    · exact ⟨by simp [quadsC], .inr ⟨g, cap, cur, rfl, hbg, hg, hnc, hcm, hcs, by simp [quadsC]⟩⟩
  | some ad =>
    have hld := run_loadCells_list (P := Tryz.prog) w ad (quadsC l) hq.src
    rw [hlen] at hld
    obtain ⟨h1, h2⟩ := hown' (quadsC l) hlen
    refine ⟨_, ?_, h1, h2⟩
    simp [Builtin.copy_, run_underlying hu, Builtin.lenOf, Builtin.firstCells, sizeOf, typeInfo, hi, hz1, hld, hst]
theorem wpList_copy_quads {ops : Array Oper} {rest : List Oper} {o : Oper} {a : Act} {w : World} {Q : Exit → Act → World → Prop} (hgd : o.guard = none) (d s : Operand)
    (ho : o.op = .call { callee := .builtin .copy, args := #[d, s], argTypes := #[22, 22] })
    (base g n cap : Nat) (xs : List Value) (hd : a.eval d = .slice (some ⟨g, 0, none⟩) n cap) (hown : w.ownsRow base 36 16 (.slice (some ⟨g, 0, none⟩) n cap) n xs)
    (ao : Option Addr) (c : Nat) (hs : a.eval s = .slice ao n c) (l : List QuadL) (hl : l.length = n) (hq : QAt w ao l)
    (h : ∀ w', w'.ownsRow base 36 16 (.slice (some ⟨g, 0, none⟩) n cap) n (quadsC l) → w.grownBy w' (some g) → wpList Tryz.prog ops Q rest (a.put o.dst (goInt n)) w') : wpList Tryz.prog ops Q (o :: rest) a w :=
  wpList_plain hgd fun K hK => by
    obtain ⟨w', hr, h1, h2⟩ := run_copy_quads o.type base g n cap xs w hown ao c l hl hq
    unfold Oper.wp execOp
    simp only [ho, resolve, invoke, builtin, Sem.run_bind, Sem.run_pure, Result.andThen_ok, List.map_toArray, List.map_cons, List.map_nil, hd, hs, hr]
    exact hK _ _ (h w' h1 h2)
/-- a row that is made with room behind it -/
theorem wpList_make_quads {ops : Array Oper} {rest : List Oper} {o : Oper} {a : Act} {w : World} {Q : Exit → Act → World → Prop} (hgd : o.guard = none) (l c : Operand) (ho : o.op = Op.makeSlice 22 l c)
    (n m : Nat) (L C : Int) (hl : a.eval l = .int .i64 L) (hc : a.eval c = .int .i64 C) (hL : L = (n : Int)) (hC : C = (n : Int) + (m : Int)) (hn : n + m ≤ 4194306)
    (h : ∀ w' xs, w'.ownsRow w.heap.size 36 16 (.slice (some ⟨w.heap.size, 0, none⟩) n (n + m)) n xs → w.grownBy w' none → wpList Tryz.prog ops Q rest (a.put o.dst (.slice (some ⟨w.heap.size, 0, none⟩) n (n + m))) w') : wpList Tryz.prog ops Q (o :: rest) a w :=
  wpList_plain hgd fun K hK => by
    obtain ⟨i0, hi, hz0, hz1, hz2⟩ := info_parts infoQ
    subst hL
    obtain rfl : C = ((n + m : Nat) : Int) := by omega
    have hr := run_make (P := Tryz.prog) w 22 36 i0 _ Tryz.underlying22 hi hz0 .i64 .i64 (n : Int) ((n + m : Nat) : Int) (by omega) (by omega) (by rw [hz2]; omega) (by omega)
    simp only [Int.toNat_natCast] at hr
    unfold Oper.wp execOp
    simp only [ho, hl, hc, hr, Sem.run_bind, Sem.run_pure, Result.andThen_ok]
    refine hK _ _ (h _ (((madeCells (Value.agg (quadC ⟨noTerm, noTerm, noTerm, noTerm⟩).toArray).cells ((n + m) * i0.size)).toList).take (n * 16)) ?_ (World.grownBy_alloc w _ none))
    refine ⟨?_, .inr ⟨w.heap.size, n + m, _, rfl, Nat.le_refl _, heap_alloc_new w _, by omega, by unfold maxLen; omega, by rw [size_madeCells, hz1], rfl⟩⟩
    rw [List.length_take, Array.length_toList, size_madeCells, hz1]
    omega
/-- two quads more, within the room -/
theorem wpList_append_room {ops : Array Oper} {rest : List Oper} {o : Oper} {a : Act} {w : World} {Q : Exit → Act → World → Prop} (hgd : o.guard = none) (s x : Operand)
    (ho : o.op = .call { callee := .builtin .append, args := #[s, x], argTypes := #[22, 22] })
    (base g n cap : Nat) (l : List QuadL) (hl : l.length = n) (hs : a.eval s = .slice (some ⟨g, 0, none⟩) n cap) (hown : w.ownsRow base 36 16 (.slice (some ⟨g, 0, none⟩) n cap) n (quadsC l))
    (b c : Nat) (m : List QuadL) (hx : a.eval x = .slice (some ⟨b, 0, none⟩) m.length c) (hq : QAt w (some ⟨b, 0, none⟩) m) (hfit : n + m.length ≤ cap)
    (h : ∀ w', QOwn base (.slice (some ⟨g, 0, none⟩) (n + m.length) cap) (l ++ m) w' → w.grownBy w' (some g) → wpList Tryz.prog ops Q rest (a.put o.dst (.slice (some ⟨g, 0, none⟩) (n + m.length) cap)) w') : wpList Tryz.prog ops Q (o :: rest) a w := by
  obtain ⟨i0, hi, hz0, hz1, hz2⟩ := info_parts infoQ
  refine wpList_append_fits w hgd s x 22 ho base 36 i0 16 Tryz.underlying22 hi hz1 g n cap (quadsC l) hs hown ⟨b, 0, none⟩ m.length c (quadsC m) hx (quadsC_len m) hq.src (oneCell_quads m) hfit ?_
  intro w' h1 h2
  refine h w' ?_ h2
  unfold QOwn
  rw [quadsC_append, List.length_append, hl]
  exact h1
end Go.Proofs.YtdegonmkikfghaaGreatDoor

/-
  Roomy copies of lists: small laws. By an AI agent.
-/
namespace Go.Proofs.YtdegonmkikfghaaGreatDoor
open Go.RowKit
set_option maxRecDepth 100000

/-- a quad of the holder's own -/
def markQ : QuadL := ⟨⟨-7, [109, 97, 114, 107], [], []⟩, noTerm, noTerm, noTerm⟩
/-- a copy of a list, with two quads of its holder's behind its end -/
def RoomyAt (w : World) (v : Value) (l : List QuadL) : Prop := ∃ g, v = .slice (some ⟨g, 0, none⟩) l.length (l.length + 2) ∧ QAt w (some ⟨g, 0, none⟩) (l ++ [markQ, markQ])
theorem RoomyAt.below {w w' : World} {v : Value} {l : List QuadL} (h : RoomyAt w v l) (hb : Below w.heap.size w w') : RoomyAt w' v l := by
  obtain ⟨g, rfl, hq⟩ := h
  exact ⟨g, rfl, hq.below hb⟩
theorem QAt.front {w : World} {a : Option Addr} {l m : List QuadL} (h : QAt w a (l ++ m)) : QAt w a l := by
  have := At.take h (quadsC l).length
  unfold QAt
  rw [quadsC_append, List.take_left] at this
  exact this
theorem RoomyAt.view {w : World} {v : Value} {l : List QuadL} (h : RoomyAt w v l) : QView w v l := by
  obtain ⟨g, rfl, hq⟩ := h
  exact ⟨_, _, rfl, by omega, hq.front⟩
theorem RoomyAt.form {w : World} {v : Value} {l : List QuadL} (h : RoomyAt w v l) : ∃ g, v = .slice (some ⟨g, 0, none⟩) l.length (l.length + 2) := by
  obtain ⟨g, rfl, _⟩ := h
  exact ⟨g, rfl⟩
/-- nothing but these blocks turns -/
theorem belowR {b : Nat} {w w' : World} {row : Option Nat} (h : w.grownBy w' row) (hb : b ≤ w.heap.size) (hr : ∀ k, row = some k → b ≤ k) : Below b w w' := (Below.refl b w).grown h hb hr
end Go.Proofs.YtdegonmkikfghaaGreatDoor
