/-
  tesseraref07.Sort: a contract: of any list of quads the set. By an AI agent.
-/
import Derived.Test.YtdegonmkikfghaaGreatDoorZTerm0
import Derived.Laws.Cover1
import Derived.Test.YtdegonmkikfghaaGreatDoorZLoadQ
import Derived.Test.YtdegonmkikfghaaGreatDoorZQuad0
import Derived.WalkLawsBesides
import Derived.Test.YtdegonmkikfghaaGreatDoorZApp
import Derived.IntWalk
import Derived.Deep.QuietTactic
import Derived.BigQuiet
import Derived.Deep.Cut
import Derived.Deep.RegionHeld3
import Derived.Test.YtdegonmkikfghaaGreatDoorZRef09S
import Derived.Test.YtdegonmkikfghaaGreatDoorZJoinB0
import Derived.Test.YtdegonmkikfghaaGreatDoorZLabel
import Derived.RegionTactic
import Derived.Deep.CutRange
import Derived.Test.YtdegonmkikfghaaGreatDoorZBuilder
import Derived.Test.YtdegonmkikfghaaGreatDoorZEscW
import Derived.Lib.BufferWrite
import Derived.Deep.WholeRow
import Derived.WalkSpells
namespace Go.Proofs.YtdegonmkikfghaaGreatDoor
open Go.RowKit
set_option maxRecDepth 100000

theorem quadsC_take : ∀ (l : List QuadL) (k : Nat), quadsC (l.take k) = (quadsC l).take (k * 16)
  | [], k => by simp [quadsC]
  | q :: l, 0 => by simp [quadsC]
  | q :: l, k + 1 => by
    rw [List.take_succ_cons, quadsC_cons, quadsC_cons, quadsC_take l k, List.take_append, quadC_len, List.take_of_length_le (l := quadC q) (by rw [quadC_len]; omega), show (k + 1) * 16 - 16 = k * 16 by omega]
theorem QAt.take {w : World} {a : Option Addr} {l : List QuadL} (h : QAt w a l) (k : Nat) : QAt w a (l.take k) := by
  unfold QAt
  rw [quadsC_take]
  exact At.take h _
theorem bown_q {base base' : Nat} {v : Value} {l : List QuadL} {w : World} (h : QOwn base' v l w) (hb : base ≤ base') : QOwn base v l w := by
  refine ⟨h.1, ?_⟩
  rcases h.2 with h2 | ⟨g, cap, cur, h1, h2, h3, h4⟩
  · exact .inl h2
  · exact .inr ⟨g, cap, cur, h1, Nat.le_trans hb h2, h3, h4⟩
theorem wpList_append_view {ops : Array Oper} {rest : List Oper} {o : Oper} {a : Act} {w : World} {Q : Exit → Act → World → Prop} (hgd : o.guard = none) (s x : Operand)
    (ho : o.op = .call { callee := .builtin .append, args := #[s, x], argTypes := #[22, 22] })
    (base : Nat) (v : Value) (l m : List QuadL) (hs : a.eval s = v) (hown : QOwn base v l w) (ao : Option Addr) (n c : Nat) (hx : a.eval x = .slice ao n c) (hn : n = m.length) (hm : QAt w ao m) (hc : ao = none → c = 0)
    (hl : l.length + m.length ≤ 4194304) (hbase : base ≤ w.heap.size)
    (h : ∀ v' w', QOwn base v' (l ++ m) w' → w.grownBy w' v.ownBlock → wpList Tryz.prog ops Q rest (a.put o.dst v') w') : wpList Tryz.prog ops Q (o :: rest) a w := by
  subst hn
  obtain ⟨i0, hi, hz0, hz1, hz2⟩ := info_parts infoQ
  refine wpList_plain hgd fun K hK => ?_
  cases ao with
  | none =>
    have h0 : m = [] := by
      cases m with
      | nil => rfl
      | cons q r =>
        obtain ⟨b, off, h, _⟩ := hm 0 (by rw [quadsC_len]; simp)
        cases h
    subst h0
    obtain rfl := hc rfl
    have hr := run_append_owned_none (P := Tryz.prog) w base 22 o.type 36 i0 16 Tryz.underlying22 hi v l.length (quadsC l) hown
    unfold Oper.wp execOp
    simp only [ho, resolve, invoke, builtin, Sem.run_bind, Sem.run_pure, Result.andThen_ok, List.map_toArray, List.map_cons, List.map_nil, hs, hx, List.length_nil, hr]
    exact hK _ _ (h v w (by rw [List.append_nil]; exact hown) (World.grownBy.refl _ _))
  | some ad =>
    obtain ⟨v', w', hr, h2, h3, _, _⟩ := run_append_own_at (P := Tryz.prog) w base 22 o.type 36 i0 _ 16 224 Tryz.underlying22 hi hz0 hz1 hz2 rfl (by decide) v l.length (quadsC l) hown ad m.length c (quadsC m) (by rw [quadsC_len])
      (fun j u hu => by
        obtain ⟨hj, rfl⟩ := List.getElem?_eq_some_iff.1 hu
        obtain ⟨b, off, he, hcell⟩ := hm j hj
        cases he
        rw [addO]
        exact hcell) (oneCell_quads m) (by unfold maxLen; omega) (by omega) hbase
    unfold Oper.wp execOp
    simp only [ho, resolve, invoke, builtin, Sem.run_bind, Sem.run_pure, Result.andThen_ok, List.map_toArray, List.map_cons, List.map_nil, hs, hx, hr]
    refine hK _ _ (h v' w' ?_ h3)
    unfold QOwn
    rw [List.length_append, quadsC_append]
    exact h2
end Go.Proofs.YtdegonmkikfghaaGreatDoor

/-
  tesseraref09.Each: a contract. By an AI agent.
-/
namespace Go.Proofs.YtdegonmkikfghaaGreatDoor
open Go.RowKit
set_option maxRecDepth 1000000

/-- what has been read, up to a line's beginning -/
def EachSt (l : List UInt8) (f : Nat) (done : List QuadL) : Prop := (eachF l 0).1.map (·.2) = done ++ (eachF l f).1.map (·.2) ∧ (eachF l 0).2 = (eachF l f).2
theorem each_cut {l : List UInt8} {f k : Nat} (hf : f ≤ k) (_hk : k ≤ l.length) (he : f < l.length → eolF l f = k) {x : Option QuadL ⊕ (Nat × Int)} (hx : lineAt ((l.drop f).take (k - f)) = x) :
    (∀ p e, x = .inr (p, e) → eachF l f = ([], some (f + p, e))) ∧ (x = .inl none → eachF l f = eachF l (k + 1)) ∧ (∀ q, x = .inl (some q) → eachF l f = ((f, q) :: (eachF l (k + 1)).1, (eachF l (k + 1)).2)) := by
  by_cases h : f < l.length
  · have e := he h
    have hc : lineAt (cutF l f (eolF l f)) = x := by rw [e]; exact hx
    refine ⟨fun p c hp => eachF_bad h (hc.trans hp), fun hp => ?_, fun q hp => ?_⟩
    · rw [eachF_none h (hc.trans hp), e]
    · rw [eachF_some h (hc.trans hp), e]
  · have hn : (l.drop f).take (k - f) = [] := by rw [List.drop_eq_nil_of_le (by omega), List.take_nil]
    rw [hn, line_none] at hx
    subst hx
    refine ⟨(fun p c hp => by cases hp), fun _ => ?_, (fun q hp => by cases hp)⟩
    rw [eachF_end (by omega), eachF_end (by omega)]
theorem each_bad {l : List UInt8} {f k : Nat} {done : List QuadL} (hs : EachSt l f done) (hf : f ≤ k) (hk : k ≤ l.length) (he : f < l.length → eolF l f = k) {p : Nat} {e : Int} (hx : lineAt ((l.drop f).take (k - f)) = .inr (p, e)) : (eachF l 0).1.map (·.2) = done ∧ (eachF l 0).2 = some (f + p, e) := by
  have h := (each_cut hf hk he hx).1 p e rfl
  obtain ⟨h1, h2⟩ := hs
  rw [h] at h1 h2
  exact ⟨by simpa using h1, h2⟩
theorem each_none {l : List UInt8} {f k : Nat} {done : List QuadL} (hs : EachSt l f done) (hf : f ≤ k) (hk : k ≤ l.length) (he : f < l.length → eolF l f = k) (hx : lineAt ((l.drop f).take (k - f)) = .inl none) : EachSt l (k + 1) done := by
  have h := (each_cut hf hk he hx).2.1 rfl
  unfold EachSt
  rw [← h]
  exact hs
theorem each_some {l : List UInt8} {f k : Nat} {done : List QuadL} (hs : EachSt l f done) (hf : f ≤ k) (hk : k ≤ l.length) (he : f < l.length → eolF l f = k) {q : QuadL} (hx : lineAt ((l.drop f).take (k - f)) = .inl (some q)) : EachSt l (k + 1) (done ++ [q]) := by
  have h := (each_cut hf hk he hx).2.2 q rfl
  obtain ⟨h1, h2⟩ := hs
  rw [h] at h1 h2
  exact ⟨by rw [h1]; simp, h2⟩
/-- does the line go on here? -/
def contF (l : List UInt8) (k : Nat) : Bool := if k < l.length then !eolC (l.getD k 0) else false
def faultE : Option (Nat × Int) → Value
  | none => .agg #[.int .i64 0, .int .i64 0]
  | some (p, e) => .agg #[.int .i64 (p : Int), .int .i64 e]
/-- an owned row beside one of another type -/
theorem own_apart {w : World} {b b' : Nat} {e e' : TypeId} {s s' : Nat} {v v' : Value} {n n' : Nat} {xs xs' : List Value} (h : w.ownsRow b e s v n xs) (h' : w.ownsRow b' e' s' v' n' xs') (hT : e ≠ e') : ∀ k, v.ownBlock = some k → some k ≠ v'.ownBlock := by
  intro k hk hk'
  rcases h.2 with ⟨rfl, _⟩ | ⟨g, cap, cur, rfl, _, h3, _⟩
  · simp [Value.ownBlock] at hk
  rcases h'.2 with ⟨rfl, _⟩ | ⟨g', cap', cur', rfl, _, h3', _⟩
  · simp [Value.ownBlock] at hk'
  simp [Value.ownBlock] at hk hk'
  rw [hk] at h3
  rw [← hk'] at h3'
  rw [h3] at h3'
  cases h3'
  exact hT rfl
theorem ownsRow_grownE {w w' : World} {b : Nat} {e : TypeId} {s : Nat} {v : Value} {n : Nat} {xs : List Value} {row : Option Nat} (h : w.ownsRow b e s v n xs) (hg : w.grownBy w' row) (hne : ∀ k, v.ownBlock = some k → some k ≠ row) : w'.ownsRow b e s v n xs := by
  refine ⟨h.1, ?_⟩
  rcases h.2 with h2 | ⟨g, cap, cur, rfl, h2, h3, h4⟩
  · exact .inl h2
  · exact .inr ⟨g, cap, cur, rfl, h2, (hg.block g (Array.getElem?_eq_some_iff.1 h3).1 (hne g rfl)).trans h3, h4⟩
theorem own_keep {w w' : World} {b b' : Nat} {e e' : TypeId} {s s' : Nat} {v v' : Value} {n n' : Nat} {xs xs' : List Value} (h : w.ownsRow b e s v n xs) (h' : w.ownsRow b' e' s' v' n' xs') (hT : e ≠ e') (hg : w.grownBy w' v'.ownBlock) : w'.ownsRow b e s v n xs :=
  ownsRow_grownE h hg (own_apart h h' hT)
theorem own_set2 {w : World} {b : Nat} {e : TypeId} {s : Nat} {v : Value} {n : Nat} {xs : List Value} (h : w.ownsRow b e s v n xs) {g o : Nat} (hg : g < b) (u : Value) : (w.setCell ⟨g, o, none⟩ u).ownsRow b e s v n xs := by
  refine ⟨h.1, ?_⟩
  rcases h.2 with h2 | ⟨g', cap, cur, rfl, h2, h3, h4⟩
  · exact .inl h2
  · exact .inr ⟨g', cap, cur, rfl, h2, (by rw [RowKit.Below.heap_setCell _ _ _ _ (by show g' ≠ g; omega)]; exact h3), h4⟩
theorem own_sets {w : World} {g : Nat} {v : Value} {l : List QuadL} {x y : Value} (h : QOwn (g + 1) v l w) : QOwn (g + 1) v l ((w.setCell ⟨g, 0, none⟩ x).setCell ⟨g, 1, none⟩ y) := own_set2 (own_set2 h (by omega) _) (by omega) _
theorem own_al {b : Nat} {v : Value} {l : List QuadL} {w : World} (h : QOwn b v l w) (o : Obj) : QOwn b v l (w.alloc o) := World.ownsRow.alloc h o
theorem own_low {b b' : Nat} {v : Value} {l : List QuadL} {w : World} (h : QOwn b' v l w) (hb : b ≤ b') : QOwn b v l w := bown_q h hb
theorem block_keep {w w' : World} {b : Nat} {e : TypeId} {s : Nat} {v : Value} {n : Nat} {xs : List Value} {g : Nat} {ob : Option Obj} (h : w.ownsRow b e s v n xs) (hg : w.grownBy w' v.ownBlock) (hgb : g < b) (hgw : g < w.heap.size) (hx : w.heap[g]? = ob) : w'.heap[g]? = ob :=
  (hg.block g hgw (fun e => by have := own_base h g e.symm; omega)).trans hx
theorem below_keep {w0 w w' : World} {B b : Nat} {e : TypeId} {s : Nat} {v : Value} {n : Nat} {xs : List Value} (h : w.ownsRow b e s v n xs) (hb : Below B w0 w) (hB : B ≤ b) (hs : B ≤ w.heap.size) (hg : w.grownBy w' v.ownBlock) : Below B w0 w' :=
  hb.grown hg hs (fun k hk => Nat.le_trans hB (own_base h k hk))
set_option maxHeartbeats 8000000 in
theorem refEach_l (l : List UInt8) (w : World) (hl : l.length ≤ 1048576) :
    Calls Tryz.prog 22 #[.string (B l)] w fun e w' => (∃ v pv, e = .returned (.tuple #[v, pv, faultE (eachF l 0).2]) ∧ QOwn w.heap.size v ((eachF l 0).1.map (·.2)) w') ∧ Below w.heap.size w w' := by
  have e0 : decide ((67108864 : Int) < (l.length : Int)) = false := decide_eq_false (by omega)
  have hs0 : (w.alloc (.cells #[.int .i64 0, .int .i64 0] 42)).heap.size = w.heap.size + 1 := by simp
  have A0 : Hid (Below w.heap.size w (w.alloc (.cells #[.int .i64 0, .int .i64 0] 42))) := Lib.hid ((Below.refl _ _).alloc (Nat.le_refl _) _)
  have G0 : Hid ((w.alloc (.cells #[.int .i64 0, .int .i64 0] 42)).heap[w.heap.size]? = some (.cells #[.int .i64 0, .int .i64 0] 42 (0, 0))) := Lib.hid (heap_alloc_new w (.cells #[.int .i64 0, .int .i64 0] 42))
  go_enter Tryz.func22, Tryz.ntmps22
  go_wp2_with fail
  go_loopw [5, 6, 7, 8] (fun v pv fv iv wr => ∃ (f k : Nat) (done : List QuadL) (ps : List Int), fv = .int .i64 f ∧ iv = .int .i64 k ∧ f ≤ k ∧ k ≤ l.length + 1 ∧ done.length ≤ f ∧ ps.length ≤ f ∧ Hid (k ≤ l.length → f < l.length → eolF l f = eolF l k) ∧ Hid (k = l.length + 1 → f = l.length + 1) ∧ Hid (EachSt l f done) ∧ Hid (QOwn (w.heap.size + 1) v done wr) ∧ Hid (wr.ownsRow (w.heap.size + 1) 3 1 pv ps.length (ps.map (Value.int .i64))) ∧ Hid (wr.heap[w.heap.size]? = some (.cells #[.int .i64 0, .int .i64 0] 42 (0, 0))) ∧ Hid (Below w.heap.size w wr) ∧ w.heap.size + 1 ≤ wr.heap.size) (fun _ _ _ i _ => l.length + 1 - (intOf i).toNat)
  case atStart => exact ⟨0, 0, [], [], rfl, rfl, Nat.le_refl _, Nat.zero_le _, Nat.zero_le _, Nat.zero_le _, Lib.hid (fun _ _ => rfl), Lib.hid (fun h => by omega), Lib.hid ⟨by simp, rfl⟩, Lib.hid (QOwn.nil _ _), Lib.hid (World.ownsRow_nil _ _ _ _), G0, A0, by rw [hs0]; exact Nat.le_refl _⟩
  case round =>
    obtain ⟨f, k, done, ps, rfl, rfl, hfk, hkm, hdf, hpf, HEE, HEND, HS, HQ, HP, HG, HB, hsz⟩ := hrel
    clear A0 G0 hs0
    by_cases hkl : k ≤ l.length
    · have c1 : decide ((k : Int) ≤ (l.length : Int)) = true := decide_eq_true (by omega)
      have c1n : decide (k ≤ l.length) = true := decide_eq_true hkl
      have f0 : 0 ≤ (f : Int) := by omega
      have f1 : (f : Int) ≤ (k : Int) := by omega
      have f2 : (k : Int) ≤ (l.length : Int) := by omega
      have k0 : 0 ≤ (k : Int) := by omega
      obtain ⟨wo, rfl⟩ : ∃ wo : World, wo = wr := ⟨_, rfl⟩
      go_upto_region 9 with fail
      go_cut [37] from 16 to 68 (fun s wx => s = .bool (contF l k) ∧ wx = wo)
      case first =>
        by_cases hlt : k < l.length
        · have c2 : decide ((k : Int) < (l.length : Int)) = true := decide_eq_true (by omega)
          have c2n : decide (k < l.length) = true := decide_eq_true hlt
          by_cases h10 : l[k] = 10
          · have e1 : ((l[k].toNat : Int) != 10) = false := by rw [h10]; rfl
            have HC : Hid (contF l k = false) := Lib.hid (by unfold contF; rw [if_pos hlt, getD_at hlt, h10]; rfl)
            clear h10
            go_wp2_with fail
            go_meet
            case rel => exact ⟨by rw [HC.out], rfl⟩
          have e1 : ((l[k].toNat : Int) != 10) = true := bne_iff_ne.2 (bne_iff_ne.1 (byte_nei (d := 10) h10))
          by_cases h13 : l[k] = 13
          · have e2 : ((l[k].toNat : Int) != 13) = false := by rw [h13]; rfl
            have HC : Hid (contF l k = false) := Lib.hid (by unfold contF; rw [if_pos hlt, getD_at hlt, h13]; rfl)
            clear h10 h13
            go_wp2_with fail
            go_meet
            case rel => exact ⟨by rw [HC.out], rfl⟩
          have e2 : ((l[k].toNat : Int) != 13) = true := bne_iff_ne.2 (bne_iff_ne.1 (byte_nei (d := 13) h13))
          have HC : Hid (contF l k = true) := Lib.hid (by unfold contF; rw [if_pos hlt, getD_at hlt]; unfold eolC; simp [h10, h13])
          clear h10 h13
          go_wp2_with fail
          go_meet
          case rel => exact ⟨by rw [HC.out], rfl⟩
        · have c2 : decide ((k : Int) < (l.length : Int)) = false := decide_eq_false (by omega)
          have c2n : decide (k < l.length) = false := decide_eq_false hlt
          have HC : Hid (contF l k = false) := Lib.hid (by unfold contF; rw [if_neg hlt])
          go_wp2_with fail
          go_meet
          case rel => exact ⟨by rw [HC.out], rfl⟩
      case rest =>
        obtain ⟨rfl, hwo⟩ := hcut
        subst hwo
        try (obtain ⟨wo, rfl⟩ : ∃ wo : World, wo = wc := ⟨_, rfl⟩)
        obtain ⟨b, hb⟩ : ∃ b, contF l k = b := ⟨_, rfl⟩
        rw [hb]
        cases b with
        | true =>
          have hlt : k < l.length := by unfold contF at hb; split at hb <;> first | assumption | cases hb
          have HE2 : Hid (eolF l k = eolF l (k + 1)) := Lib.hid (eolF_go hlt (by unfold contF at hb; rw [if_pos hlt] at hb; simpa using hb))
          clear hb
          go_wp2_with fail
          go_roundw
          case rel => exact ⟨f, k + 1, done, ps, rfl, by go_num, by omega, by omega, hdf, hpf, Lib.hid (fun _ h => (HEE.out (by omega) h).trans HE2.out), Lib.hid (fun h => by omega), HS, HQ, HP, HG, HB, hsz⟩
          case measure => simp [intOf]; omega
        | false =>
          have HE : Hid (f < l.length → eolF l f = k) := Lib.hid (fun h => by
            rw [HEE.out hkl h]
            unfold contF at hb
            by_cases hlt : k < l.length
            · rw [if_pos hlt] at hb
              exact eolF_hit hlt (by simpa using hb)
            · exact eolF_end (by omega))
          clear hb
          obtain ⟨x, hx⟩ : ∃ x, lineAt ((l.drop f).take (k - f)) = x := ⟨_, rfl⟩
          rcases x with (_ | q) | ⟨p, c⟩
          · have HX := Lib.hid (each_none HS.out hfk hkl HE.out hx)
            have LN : Hid (∀ u, Calls Tryz.prog 39 #[.string (B ((l.drop f).take (k - f)))] u fun e w' => e = .returned (.tuple #[qv noQuad, .bool false, .agg #[.int .i64 0, .int .i64 0]]) ∧ Below u.heap.size u w') := Lib.hid (fun u => by have h := refLine_l ((l.drop f).take (k - f)) u (by simp; omega); rw [hx] at h; exact h)
            clear hx
            go_wp2_with (go_at_call 39; (with_reducible refine (LN.out _).mono ?_); rintro e w3 ⟨rfl, hb3⟩; have HQ3 := Lib.hid (HQ.out.below hb3); have HP3 := Lib.hid (ownsRow_below HP.out hb3); have HG3 : Hid (w3.heap[w.heap.size]? = some (.cells #[.int .i64 0, .int .i64 0] 42 (0, 0))) := Lib.hid ((hb3.block _ (by omega)).trans HG.out); have HB3 := Lib.hid (HB.out.trans (hb3.mono HB.out.size)); have hs3 := hb3.size; clear hb3)
            have AL : Below w3.heap.size w3 ((w3.alloc (.cells #[.int .i64 noQuad.s.kind, .string (B noQuad.s.text), .string (B noQuad.s.type), .string (B noQuad.s.lang), .int .i64 noQuad.p.kind, .string (B noQuad.p.text), .string (B noQuad.p.type), .string (B noQuad.p.lang), .int .i64 noQuad.o.kind, .string (B noQuad.o.text), .string (B noQuad.o.type), .string (B noQuad.o.lang), .int .i64 noQuad.g.kind, .string (B noQuad.g.text), .string (B noQuad.g.type), .string (B noQuad.g.lang)] 36)).alloc (.cells #[.int .i64 0, .int .i64 0] 42)) := ((Below.refl _ _).alloc (Nat.le_refl _) _).alloc (by simp) _
            go_roundw
            case rel => exact ⟨k + 1, k + 1, done, ps, by go_num, by go_num, Nat.le_refl _, by omega, by omega, by omega, Lib.hid (fun _ _ => rfl), Lib.hid (fun h => h), HX, Lib.hid (HQ3.out.below AL), Lib.hid (ownsRow_below HP3.out AL), Lib.hid ((AL.block _ (by omega)).trans HG3.out), Lib.hid (HB3.out.trans (AL.mono (by omega))), by have := AL.size; omega⟩
            case measure => simp [intOf]; omega
          · have HX := Lib.hid (each_some HS.out hfk hkl HE.out hx)
            have LN : Hid (∀ u, Calls Tryz.prog 39 #[.string (B ((l.drop f).take (k - f)))] u fun e w' => e = .returned (.tuple #[qv q, .bool true, .agg #[.int .i64 0, .int .i64 0]]) ∧ Below u.heap.size u w') := Lib.hid (fun u => by have h := refLine_l ((l.drop f).take (k - f)) u (by simp; omega); rw [hx] at h; exact h)
            obtain ⟨i0, hi, hz0, hz1, hz2⟩ := info_parts infoI64
            clear hx
            go_wp2_with (first
              | (go_at_call 39; (with_reducible refine (LN.out _).mono ?_); rintro e w3 ⟨rfl, hb3⟩; have HQ3 := Lib.hid (HQ.out.below hb3); have HP3 := Lib.hid (ownsRow_below HP.out hb3); have HG3 : Hid (w3.heap[w.heap.size]? = some (.cells #[.int .i64 0, .int .i64 0] 42 (0, 0))) := Lib.hid ((hb3.block _ (by omega)).trans HG.out); have HB3 := Lib.hid (HB.out.trans (hb3.mono HB.out.size)); have hs3 := hb3.size; clear hb3; have AL5 : Hid (Below w3.heap.size w3 (((w3.alloc (.cells #[.int .i64 q.s.kind, .string (B q.s.text), .string (B q.s.type), .string (B q.s.lang), .int .i64 q.p.kind, .string (B q.p.text), .string (B q.p.type), .string (B q.p.lang), .int .i64 q.o.kind, .string (B q.o.text), .string (B q.o.type), .string (B q.o.lang), .int .i64 q.g.kind, .string (B q.g.text), .string (B q.g.type), .string (B q.g.lang)] 36)).alloc (.cells #[.int .i64 0, .int .i64 0] 42)).alloc (.cells #[.int .i64 q.s.kind, .string (B q.s.text), .string (B q.s.type), .string (B q.s.lang), .int .i64 q.p.kind, .string (B q.p.text), .string (B q.p.type), .string (B q.p.lang), .int .i64 q.o.kind, .string (B q.o.text), .string (B q.o.type), .string (B q.o.lang), .int .i64 q.g.kind, .string (B q.g.text), .string (B q.g.type), .string (B q.g.lang)] 36))) := Lib.hid ((((Below.refl _ _).alloc (Nat.le_refl _) _).alloc (by simp) _).alloc (by simp; omega) _); have hs5 : (((w3.alloc (.cells #[.int .i64 q.s.kind, .string (B q.s.text), .string (B q.s.type), .string (B q.s.lang), .int .i64 q.p.kind, .string (B q.p.text), .string (B q.p.type), .string (B q.p.lang), .int .i64 q.o.kind, .string (B q.o.text), .string (B q.o.type), .string (B q.o.lang), .int .i64 q.g.kind, .string (B q.g.text), .string (B q.g.type), .string (B q.g.lang)] 36)).alloc (.cells #[.int .i64 0, .int .i64 0] 42)).alloc (.cells #[.int .i64 q.s.kind, .string (B q.s.text), .string (B q.s.type), .string (B q.s.lang), .int .i64 q.p.kind, .string (B q.p.text), .string (B q.p.type), .string (B q.p.lang), .int .i64 q.o.kind, .string (B q.o.text), .string (B q.o.type), .string (B q.o.lang), .int .i64 q.g.kind, .string (B q.g.text), .string (B q.g.type), .string (B q.g.lang)] 36)).heap.size = w3.heap.size + 1 + 1 + 1 := (by simp); have HQA : Hid (QAt (((w3.alloc (.cells #[.int .i64 q.s.kind, .string (B q.s.text), .string (B q.s.type), .string (B q.s.lang), .int .i64 q.p.kind, .string (B q.p.text), .string (B q.p.type), .string (B q.p.lang), .int .i64 q.o.kind, .string (B q.o.text), .string (B q.o.type), .string (B q.o.lang), .int .i64 q.g.kind, .string (B q.g.text), .string (B q.g.type), .string (B q.g.lang)] 36)).alloc (.cells #[.int .i64 0, .int .i64 0] 42)).alloc (.cells #[.int .i64 q.s.kind, .string (B q.s.text), .string (B q.s.type), .string (B q.s.lang), .int .i64 q.p.kind, .string (B q.p.text), .string (B q.p.type), .string (B q.p.lang), .int .i64 q.o.kind, .string (B q.o.text), .string (B q.o.type), .string (B q.o.lang), .int .i64 q.g.kind, .string (B q.g.text), .string (B q.g.type), .string (B q.g.lang)] 36)) (some ⟨w3.heap.size + 1 + 1, 0, none⟩) [q]) := Lib.hid (by have h := at_row ((w3.alloc (.cells #[.int .i64 q.s.kind, .string (B q.s.text), .string (B q.s.type), .string (B q.s.lang), .int .i64 q.p.kind, .string (B q.p.text), .string (B q.p.type), .string (B q.p.lang), .int .i64 q.o.kind, .string (B q.o.text), .string (B q.o.type), .string (B q.o.lang), .int .i64 q.g.kind, .string (B q.g.text), .string (B q.g.type), .string (B q.g.lang)] 36)).alloc (.cells #[.int .i64 0, .int .i64 0] 42)) (quadsC [q]) 36; rw [World.size_alloc, World.size_alloc] at h; exact h))
              | (at_builtin; refine wpList_append_view rfl (.tmp 59) (.tmp 61) rfl (w.heap.size + 1) _ done [q] rfl (HQ3.out.below AL5.out) _ _ _ rfl rfl HQA.out (fun h => by cases h) (by simp; omega) (by omega) ?_; intro v5 w5 hO hg; have HQ5 := Lib.hid hO; have HP5 := Lib.hid (own_keep (ownsRow_below HP3.out AL5.out) (HQ3.out.below AL5.out) (by decide) hg); have HG5 : Hid (w5.heap[w.heap.size]? = some (.cells #[.int .i64 0, .int .i64 0] 42 (0, 0))) := Lib.hid (block_keep (HQ3.out.below AL5.out) hg (by omega) (by omega) ((AL5.out.block _ (by omega)).trans HG3.out)); have HB5 := Lib.hid (below_keep (HQ3.out.below AL5.out) (HB3.out.trans (AL5.out.mono (by omega))) (by omega) (by omega) hg); have hg5 := hg.size; have AL6 : Hid (Below w5.heap.size w5 (w5.alloc (.cells #[.int .i64 f] 3))) := Lib.hid ((Below.refl _ _).alloc (Nat.le_refl _) _); have hs6 : (w5.alloc (.cells #[.int .i64 f] 3)).heap.size = w5.heap.size + 1 := (by simp); clear hO hg)
              | (at_builtin; refine wpList_append_texts rfl (.tmp 63) (.tmp 65) 51 rfl (w.heap.size + 1) 3 i0 (.int .i64 0) 8 Tryz.underlying51 hi hz0 hz1 hz2 rfl _ ps.length (ps.map (Value.int .i64)) rfl (ownsRow_below HP5.out AL6.out) _ 1 1 [.int .i64 f] rfl rfl (at_one w5 (.int .i64 f) 3) (fun h => by cases h) (fun u hu => by rw [List.mem_singleton.1 hu]; rfl) (by unfold maxLen; omega) (by omega) (by omega) ?_; intro v7 w7 hO hg _; have HP7 : Hid (w7.ownsRow (w.heap.size + 1) 3 1 v7 (ps ++ [(f : Int)]).length ((ps ++ [(f : Int)]).map (Value.int .i64))) := Lib.hid (by rw [List.length_append, List.map_append]; exact hO); have HQ7 := Lib.hid (own_keep (HQ5.out.below AL6.out) (ownsRow_below HP5.out AL6.out) (by decide) hg); have HG7 := Lib.hid (block_keep (ownsRow_below HP5.out AL6.out) hg (by omega) (by omega) ((AL6.out.block _ (by omega)).trans HG5.out)); have HB7 := Lib.hid (below_keep (ownsRow_below HP5.out AL6.out) (HB5.out.trans (AL6.out.mono (by omega))) (by omega) (by omega) hg); have hg7 := hg.size; clear hO hg))
            go_roundw
            case rel => exact ⟨k + 1, k + 1, done ++ [q], ps ++ [(f : Int)], by go_num, by go_num, Nat.le_refl _, by omega, by simp; omega, by simp; omega, Lib.hid (fun _ _ => rfl), Lib.hid (fun h => h), HX, HQ7, HP7, HG7, HB7, by omega⟩
            case measure => simp [intOf]; omega
          · have HX := Lib.hid (each_bad HS.out hfk hkl HE.out hx)
            have hce := (lineAt_bad hx).2
            have LN : Hid (∀ u, Calls Tryz.prog 39 #[.string (B ((l.drop f).take (k - f)))] u fun e w' => e = .returned (.tuple #[qv noQuad, .bool false, .agg #[.int .i64 (p : Int), .int .i64 c]]) ∧ Below u.heap.size u w') := Lib.hid (fun u => by have h := refLine_l ((l.drop f).take (k - f)) u (by simp; omega); rw [hx] at h; exact h)
            have hpl := (lineAt_bad hx).1
            have hpb : p ≤ 1048576 := by simp at hpl; omega
            have e9 : (c != 0) = true := bne_iff_ne.2 hce
            have hsum : IntKind.i64.wrap ((p : Int) + (f : Int)) = (p : Int) + (f : Int) := IntWalk.i64_in _ (by omega)
            clear hx hce hpl
            go_wp2_with (go_at_call 39; (with_reducible refine (LN.out _).mono ?_); rintro e w3 ⟨rfl, hb3⟩; have HQ3 := Lib.hid (HQ.out.below hb3); have HP3 := Lib.hid (ownsRow_below HP.out hb3); have HG3 : Hid (w3.heap[w.heap.size]? = some (.cells #[.int .i64 0, .int .i64 0] 42 (0, 0))) := Lib.hid ((hb3.block _ (by omega)).trans HG.out); have HB3 := Lib.hid (HB.out.trans (hb3.mono HB.out.size)); have hs3 := hb3.size; clear hb3; have hrw := rowAt_of_heap (L := [.int .i64 0, .int .i64 0]) HG3.out; have g0 := hrw.cell (j := 0) (by simp); have g1 := hrw.cell (j := 1) (by simp); have g0f := hrw.free (j := 0) (by simp); have g1f := hrw.free (j := 1) (by simp); simp only [List.getElem_cons_zero, List.getElem_cons_succ] at g0 g1; clear hrw; have n1 : w.heap.size < w3.heap.size := (by omega); have n2 : ¬ w.heap.size = w3.heap.size + 1 := (by omega); have n3 : w.heap.size < w3.heap.size + 1 := (by omega); have n4 : ¬ w.heap.size = w3.heap.size := (by omega); have n5 : w.heap.size < w3.heap.size + 1 + 1 := (by omega))
            go_region
            go_wp2_with fail
            refine bodyPost_ret (v := .tuple #[u5, u6, .agg #[.int .i64 ((p : Int) + (f : Int)), .int .i64 c]]) (by simp [results, Tryz.results22, go_sem, g0, g1, n1, n3]) rfl ?_
            have hfp : ((f + p : Nat) : Int) = (p : Int) + (f : Int) := by omega
            refine ⟨⟨_, _, by rw [HX.out.2]; show _ = Ending.returned (.tuple #[_, _, .agg #[.int .i64 ((f + p : Nat) : Int), .int .i64 c]]); rw [hfp], ?_⟩, ?_⟩
            · rw [HX.out.1]
              exact own_low (own_al (own_al (own_sets HQ3.out) _) _) (by omega)
            · exact ((((HB3.out.setCell (p := ⟨w.heap.size, 0, none⟩) (Nat.le_refl _) _).setCell (p := ⟨w.heap.size, 1, none⟩) (Nat.le_refl _) _).alloc (by simp; omega) _).alloc (by simp; omega) _).drew
    · have c1 : decide ((k : Int) ≤ (l.length : Int)) = false := decide_eq_false (by omega)
      have c1n : decide (k ≤ l.length) = false := decide_eq_false hkl
      have HF : Hid ((eachF l 0).1.map (·.2) = done ∧ (eachF l 0).2 = none) := Lib.hid (by
        have h := HS.out
        unfold EachSt at h
        rw [HEND.out (by omega), eachF_end (l := l) (i := l.length + 1) (by omega)] at h
        exact ⟨by simpa using h.1, h.2⟩)
      have hrw := rowAt_of_heap (L := [.int .i64 0, .int .i64 0]) HG.out
      have g0 := hrw.cell (j := 0) (by simp)
      have g1 := hrw.cell (j := 1) (by simp)
      have g0f := hrw.free (j := 0) (by simp)
      have g1f := hrw.free (j := 1) (by simp)
      simp only [List.getElem_cons_zero, List.getElem_cons_succ] at g0 g1
      clear hrw
      go_wp2_with fail
      refine bodyPost_ret (v := .tuple #[u5, u6, .agg #[.int .i64 0, .int .i64 0]]) (by simp [results, Tryz.results22, go_sem, g0, g1]) rfl ?_
      exact ⟨⟨_, _, by rw [HF.out.2]; rfl, by rw [HF.out.1]; exact own_low (own_sets HQ.out) (by omega)⟩, (HB.out.setCell (p := ⟨w.heap.size, 0, none⟩) (Nat.le_refl _) _).setCell (p := ⟨w.heap.size, 1, none⟩) (Nat.le_refl _) _⟩
end Go.Proofs.YtdegonmkikfghaaGreatDoor

/-
  tesseralaw09.bytes, kept: contracts. By an AI agent.
-/
namespace Go.Proofs.YtdegonmkikfghaaGreatDoor
open Go.RowKit
set_option maxRecDepth 100000

def zeroB (n : Nat) : List Value := (List.replicate n (0 : UInt8)).map U8
theorem wpList_make_room {ops : Array Oper} {rest : List Oper} {o : Oper} {a : Act} {w : World} {Q : Exit → Act → World → Prop} (hgd : o.guard = none) (l c : Operand) (ho : o.op = Op.makeSlice 25 l c)
    (n m : Nat) (hl : a.eval l = .int .i64 (n : Int)) (hc : a.eval c = .int .i64 (m : Int)) (hnm : n ≤ m) (hn : m ≤ 4194306)
    (h : wpList Tryz.prog ops Q rest (a.put o.dst (.slice (some ⟨w.heap.size, 0, none⟩) n m)) (w.alloc (.cells (zeroB m).toArray 5))) : wpList Tryz.prog ops Q (o :: rest) a w :=
  wpList_plain hgd fun K hK => by
    obtain ⟨i0, hi, hz0, hz1, hz2⟩ := info_parts infoByte
    have hr := run_make (P := Tryz.prog) w 25 5 i0 _ Tryz.underlying25 hi hz0 .i64 .i64 (n : Int) (m : Int) (by omega) (by omega) (by rw [hz2]; omega) (by omega)
    simp only [Int.toNat_natCast] at hr
    have e : madeCells (Value.int .u8 0).cells (m * i0.size) = (zeroB m).toArray := by
      rw [hz1, Nat.mul_one, ← Array.toList_inj]
      exact (toList_madeCells_one _ m).trans (by simp [U8, zeroB])
    rw [e] at hr
    unfold Oper.wp execOp
    simp only [ho, hl, hc, hr, Sem.run_bind, Sem.run_pure, Result.andThen_ok]
    exact hK _ _ h
theorem BOwn.cap {base : Nat} {a : Option Addr} {n c : Nat} {l : List UInt8} {w : World} (h : BOwn base (.slice a n c) l w) : n = l.length ∧ l.length ≤ c := by
  obtain ⟨a2, c2, he, hc, _⟩ := ownsRow_at h
  cases he
  exact ⟨rfl, hc⟩
theorem own_room (w : World) (l : List UInt8) (hl : l.length ≤ 4194304) (m : Nat) (hm : m = l.length + 2) : BOwn w.heap.size (.slice (some ⟨w.heap.size, 0, none⟩) l.length m) l (w.alloc (.cells (l.map U8 ++ zeroB 2).toArray 5)) := by
  subst hm
  exact ⟨by simp, .inr ⟨w.heap.size, l.length + 2, _, rfl, Nat.le_refl _, heap_alloc_new _ _, by omega, by unfold maxLen; omega, by simp [zeroB], by simp⟩⟩
theorem wpList_copy_new {ops : Array Oper} {rest : List Oper} {o : Oper} {a : Act} {w : World} {Q : Exit → Act → World → Prop} (hgd : o.guard = none) (d s : Operand) (ho : o.op = .call { callee := .builtin .copy, args := #[d, s], argTypes := #[25, 9] })
    (w0 : World) (l : List UInt8) (m : Nat) (hm : m = l.length + 2) (hw : w = w0.alloc (.cells (zeroB m).toArray 5)) (hd : a.eval d = .slice (some ⟨w0.heap.size, 0, none⟩) l.length m) (hs : a.eval s = .string (B l))
    (h : ∀ v', wpList Tryz.prog ops Q rest (a.put o.dst v') (w0.alloc (.cells (l.map U8 ++ zeroB 2).toArray 5))) : wpList Tryz.prog ops Q (o :: rest) a w :=
  wpList_plain hgd fun K hK => by
    subst hm
    subst hw
    obtain ⟨i0, hi, hz0, hz1, hz2⟩ := info_parts infoByte
    have hr := Lib.run_copy_row_string (P := Tryz.prog) (w0.alloc (.cells (zeroB (l.length + 2)).toArray 5)) 25 9 o.type 5 w0.heap.size 0 l.length (l.length + 2) (B l) (zeroB (l.length + 2)).toArray 5 Tryz.underlying25 (by rw [hi]; simp [hz1]) (heap_alloc_new _ _) (by rw [B_size]; exact Nat.le_refl _) (by rw [B_size]; simp [zeroB])
    rw [World.setRow_alloc_new] at hr
    have e : ((zeroB (l.length + 2)).toArray.toList.take 0 ++ Lib.byteCells (B l).data.toList ++ (zeroB (l.length + 2)).toArray.toList.drop (0 + (B l).size)).toArray = (l.map U8 ++ zeroB 2).toArray := by
      rw [B_size, B_toList]
      simp [zeroB, Lib.byteCells, U8]
    rw [e] at hr
    unfold Oper.wp execOp
    simp only [ho, resolve, invoke, builtin, Sem.run_bind, Sem.run_pure, Result.andThen_ok, List.map_toArray, List.map_cons, List.map_nil, hs, hd, hr]
    exact hK _ _ (h _)
theorem at_marks (w : World) : At (w.alloc (.cells #[.int .u8 250, .int .u8 251] 5)) (some ⟨w.heap.size, 0, none⟩) (([250, 251] : List UInt8).map U8) := at_row w [.int .u8 250, .int .u8 251] 5
set_option maxHeartbeats 2000000 in
theorem lawBytes_l (l : List UInt8) (w : World) (hl : l.length ≤ 1048576) :
    Calls Tryz.prog 21 #[.string (B l)] w fun e w' => ∃ a c, e = .returned (.slice a l.length c) ∧ BOwn w.heap.size (.slice a (l ++ [250, 251]).length c) (l ++ [250, 251]) w' ∧ Below w.heap.size w w' := by
  obtain ⟨m, hm⟩ : ∃ m : Nat, m = l.length + 2 := ⟨_, rfl⟩
  have hm1 : l.length + 2 ≤ m := by omega
  have hm2 : m ≤ l.length + 2 := by omega
  have hz : IntKind.i64.wrap ((l.length : Int) + 2) = (m : Int) := by rw [IntWalk.i64_in _ (by omega)]; omega
  have hz2 : (l.length : Int) + 2 = (m : Int) := by omega
  have OW := Lib.hid (own_room w l (by omega) m hm)
  have HM := Lib.hid hm
  have HA : Hid (At ((w.alloc (.cells (l.map U8 ++ zeroB 2).toArray 5)).alloc (.cells #[.int .u8 250, .int .u8 251] 5)) (some ⟨w.heap.size + 1, 0, none⟩) (([250, 251] : List UInt8).map U8)) := Lib.hid (by have h := at_marks (w.alloc (.cells (l.map U8 ++ zeroB 2).toArray 5)); rw [World.size_alloc] at h; exact h)
  have AL : Hid (Below w.heap.size w (w.alloc (.cells (l.map U8 ++ zeroB 2).toArray 5))) := Lib.hid ((Below.refl _ _).alloc (Nat.le_refl _) _)
  have hl2 : (l ++ [250, 251]).length = m := by rw [hm]; simp
  have HL2 := Lib.hid hl2
  clear hl2 hm
  go_enter Tryz.func21, Tryz.ntmps21
  go_wp2_with (first
    | (refine wpList_make_room rfl (.tmp 5) (.tmp 8) rfl l.length m rfl rfl (by omega) (by omega) ?_)
    | (refine wpList_copy_new rfl (.tmp 10) (.tmp 11) rfl w l m HM.out rfl rfl rfl ?_; intro v2)
    | (at_builtin; refine wpList_app_bytes rfl (.tmp 13) (.tmp 14) rfl w.heap.size _ l [250, 251] rfl (OW.out.below ((Below.refl _ _).alloc (Nat.le_refl _) _)) _ _ _ rfl rfl HA.out (by simp; omega) (by simp; omega) ?_; intro v3 w3 hO hg; have hO2 := hO; obtain ⟨a3, c3, rfl⟩ := hO2.slice; have HC := (BOwn.cap hO); rw [HL2.out] at HC ⊢; have HO := Lib.hid hO; have HG := Lib.hid hg; clear hO hO2 hg))
  go_ret
  exact ⟨_, _, rfl, by have h := HO.out; rw [List.length_append] at h; exact h, below_own ((AL.out).alloc (by simp) _) (OW.out.below ((Below.refl _ _).alloc (Nat.le_refl _) _)) HG.out (Nat.le_refl _)⟩
set_option maxHeartbeats 2000000 in
theorem lawKept_l (l : List UInt8) (b : Nat) (a : Option Addr) (c : Nat) (u : World) (h : BOwn b (.slice a (l ++ [250, 251]).length c) (l ++ [250, 251]) u) (hl : l.length ≤ 1048576) :
    Calls Tryz.prog 24 #[.slice a l.length c, .string (B l)] u fun e w' => e = .returned (.bool true) ∧ w' = u := by
  have hA := h.at
  obtain ⟨g, o, rfl⟩ := hA.place (by simp)
  have hcap := h.cap.2
  have k0 := hA.get (j := l.length) (by simp)
  have k1 := hA.get (j := l.length + 1) (by simp)
  have c0 : u.cell? ⟨g, o + l.length, none⟩ = some (.int .u8 250) := by rw [k0]; simp [U8]
  have c1 : u.cell? ⟨g, o + (l.length + 1), none⟩ = some (.int .u8 251) := by rw [k1]; simp [U8]
  have cv : (convert 25 9 (.slice (some ⟨g, o, none⟩) l.length c)).run Tryz.prog u = .ok (.string (B l)) u :=
    run_convert_bytes_back (P := Tryz.prog) u 25 9 5 ⟨g, o, none⟩ c l Tryz.underlying25 Tryz.underlying5 Tryz.underlying9 (fun j hj => by
      have := hA.get (j := j) (by simp; omega)
      rw [addO, this]
      simp [U8, List.getElem_append_left, hj])
  obtain ⟨m, hm⟩ : ∃ m : Nat, m = l.length + 2 := ⟨_, rfl⟩
  have hm1 : l.length + 2 ≤ m := by omega
  have hm2 : m ≤ l.length + 2 := by omega
  have hmc : m ≤ c := by simp at hcap; omega
  have hz : IntKind.i64.wrap ((l.length : Int) + 2) = (m : Int) := by rw [IntWalk.i64_in _ (by omega)]; omega
  have hz2 : (l.length : Int) + 2 = (m : Int) := by omega
  have p0 : (0 : Int) ≤ (m : Int) := by omega
  have p1 : (m : Int) ≤ (c : Int) := by omega
  have p2 : (l.length : Int) < (m : Int) := by omega
  have p3 : (l.length : Int) + 1 < (m : Int) := by omega
  have p4 : l.length + 1 < m := by omega
  have p5 : l.length < m := by omega
  have p6 : (l.length : Int) ≤ (c : Int) := by omega
  have p7 : l.length ≤ c := by omega
  clear hA k0 k1 hcap h hm
  go_enter Tryz.func24, Tryz.ntmps24
  go_wp2_with fail
  go_ret
  exact ⟨by simp, rfl⟩
end Go.Proofs.YtdegonmkikfghaaGreatDoor
