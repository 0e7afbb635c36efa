/-
  tesseralaw09.NquadsPrints: the walk. By an AI agent.
-/
import Derived.Test.YtdegonmkikfghaaGreatDoorZPrintW
import Derived.Test.YtdegonmkikfghaaGreatDoorZHeavy
import Derived.Test.YtdegonmkikfghaaGreatDoorZSameQ
namespace Go.Proofs.YtdegonmkikfghaaGreatDoor
open Go.RowKit
set_option maxRecDepth 100000

theorem heap_set_other (w : World) (p : Addr) (g : Nat) (x : Value) (h : g ≠ p.block) : (w.setCell p x).heap[g]? = w.heap[g]? := RowKit.Below.heap_setCell _ _ _ _ h
/-- a row of the call's own beside a block that is written to -/
theorem BOwn.set {base : Nat} {v : Value} {l : List UInt8} {w : World} (h : BOwn base v l w) (p : Addr) (x : Value) (hp : v.ownBlock ≠ some p.block) : BOwn base v l (w.setCell p x) := by
  refine ⟨h.1, ?_⟩
  rcases h.2 with hn | ⟨g, cap, cur, rfl, h1, h2, rest⟩
  · exact .inl hn
  · refine .inr ⟨g, cap, cur, rfl, h1, ?_, rest⟩
    rw [heap_set_other w p g x (fun e => hp (by rw [← e]; simp [Value.ownBlock]))]
    exact h2
/-- cells that may be written to, at a place -/
def Writes (w : World) (a : Option Addr) (n : Nat) : Prop := ∀ j, j < n → ∃ g v, a = some ⟨g, 0, none⟩ ∧ w.cell? ⟨g, j, none⟩ = some v ∧ w.frozen? ⟨g, j, none⟩ = false
theorem Writes.below {w w' : World} {a : Option Addr} {n : Nat} (h : Writes w a n) (hb : Below w.heap.size w w') : Writes w' a n := fun j hj => by
  obtain ⟨g, v, ha, hc, hf⟩ := h j hj
  have hlt := World.block_lt_of_cell? _ _ hc
  exact ⟨g, v, ha, (hb.cell (p := ⟨g, j, none⟩) hlt).trans hc, (hb.frozen (p := ⟨g, j, none⟩) hlt).trans hf⟩
theorem Writes.set {w : World} {a : Option Addr} {n : Nat} (h : Writes w a n) (p : Addr) (x : Value) : Writes (w.setCell p x) a n := fun j hj => by
  obtain ⟨g, v, ha, hc, hf⟩ := h j hj
  by_cases e : p = ⟨g, j, none⟩
  · subst e
    exact ⟨g, x, ha, World.cell?_setCell_same _ _ _ hc, by rw [World.frozen?_setCell]; exact hf⟩
  · exact ⟨g, v, ha, by rw [World.cell?_setCell_other _ _ _ _ e]; exact hc, by rw [World.frozen?_setCell]; exact hf⟩
theorem BOwn.writes {base : Nat} {a : Option Addr} {n c : Nat} {l : List UInt8} {w : World} (h : BOwn base (.slice a n c) l w) (hn : n = l.length) : Writes w a n := by
  intro j hj
  rcases h.2 with ⟨he, _⟩ | ⟨g, cap, cur, he, h1, h2, h3, h4⟩
  · cases he; omega
  · cases he
    have hc := h.cells (g := g) rfl j (U8 l[j]) (by simp [hj])
    rw [add0] at hc
    refine ⟨g, _, rfl, hc, ?_⟩
    simp [World.frozen?, h2]
/-- what is carried while the first answer is written over -/
structure PrSt (w wr : World) (a : Option Addr) (n b2 : Nat) (v2 : Value) (out : List UInt8) : Prop where
  hb : Below w.heap.size w wr
  hw : Writes wr a n
  ho : BOwn b2 v2 out wr
  hf : ∀ g, a = some ⟨g, 0, none⟩ → 0 < n → w.heap.size ≤ g ∧ g < b2
theorem PrSt.below {w wr w' : World} {a : Option Addr} {n b2 : Nat} {v2 : Value} {out : List UInt8} (h : PrSt w wr a n b2 v2 out) (hb : Below wr.heap.size wr w') : PrSt w w' a n b2 v2 out :=
  ⟨h.hb.trans (hb.mono h.hb.size), h.hw.below hb, h.ho.below hb, h.hf⟩
theorem PrSt.set {w wr : World} {g n b2 : Nat} {v2 : Value} {out : List UInt8} (h : PrSt w wr (some ⟨g, 0, none⟩) n b2 v2 out) (hn : 0 < n) (j : Nat) (x : Value) : PrSt w (wr.setCell ⟨g, j, none⟩ x) (some ⟨g, 0, none⟩) n b2 v2 out := by
  obtain ⟨f1, f2⟩ := h.hf g rfl hn
  exact ⟨h.hb.setCell (p := ⟨g, j, none⟩) f1 _, h.hw.set _ _, h.ho.set _ _ (fun e => by have := (h.ho.base _ e).1; simp at this; omega), h.hf⟩
set_option maxHeartbeats 12000000 in
theorem prints_walk (l : List QuadL) (v : Value) (most : Int) (w : World) (hT : TabAt w) (hM : MaxAt w) (hV : QView w v l) (hS : ∀ q ∈ l, Short q) (hl : l.length ≤ 1048576) :
    Calls Tryz.prog 3 #[v, .int .i64 most] w fun e w' => e = .returned (.bool true) ∧ Below w.heap.size w w' := by
  have HE := Lib.hid (heavy_l l v w hV hS hl)
  have RO := Lib.hid (fun (u : World) (hb : Below w.heap.size w u) => roomyB_l l v u (hV.below hb) hl)
  have PR := Lib.hid (fun (g : Nat) (u : World) (hb : Below w.heap.size w u) (hq : QAt u (some ⟨g, 0, none⟩) l) => nqPrint_l l (some ⟨g, 0, none⟩) (l.length + 2) most u (hT.below hb) (hM.below hb) hS hl hq)
  have RP := Lib.hid (fun (u : World) (hb : Below w.heap.size w u) => refPrint_l l v most u (hV.below hb) hS hl)
  have KP := Lib.hid (fun (g : Nat) (u : World) (hb : Below w.heap.size w u) (hq : QAt u (some ⟨g, 0, none⟩) (l ++ [markQ, markQ])) => kept_l l (.slice (some ⟨g, 0, none⟩) l.length (l.length + 2)) v u ⟨g, rfl, hq⟩ (hV.below hb) hl)
  obtain ⟨a, c, rfl, _, _⟩ := hV
  have hlen := printN_len (most := most) (linesF_big hl (fun q hq => lineF_le (hS q hq)))
  obtain ⟨z, hz⟩ : ∃ z, printN l most = z := ⟨_, rfl⟩
  obtain ⟨out, en⟩ := z
  simp only [hz] at PR RP hlen
  clear hT hM hS hz
  go_enter Tryz.func3, Tryz.ntmps3
  go_wp2_with (first
    | (go_at_call 11; (with_reducible refine HE.out.mono ?_); rintro e w1 ⟨⟨hvy, rfl⟩, hb1⟩; have HB1 := Lib.hid hb1; clear hb1)
    | (go_at_call 12; (with_reducible refine (RO.out _ HB1.out).mono ?_); rintro e w2 ⟨rfl, hq2, hb2⟩; have HQ2 := Lib.hid hq2; have HB2 := Lib.hid (HB1.out.trans (hb2.mono HB1.out.size)); clear hq2 hb2)
    | (go_at_call 13; (with_reducible refine (PR.out _ _ HB2.out HQ2.out.front).mono ?_); rintro e w3 ⟨v3, rfl, ho3, hb3⟩; obtain ⟨a3, c3, rfl⟩ := ho3.slice; have HG3 := Lib.hid (And.intro HB2.out.size ho3.base); have HO3 := Lib.hid ho3; have HQ3 := Lib.hid (HQ2.out.below hb3); have HB3 := Lib.hid (HB2.out.trans (hb3.mono HB2.out.size)); clear ho3 hb3)
    | (go_at_call 13; (with_reducible refine (PR.out _ _ HB3.out HQ3.out.front).mono ?_); rintro e w4 ⟨v4, rfl, ho4, hb4⟩; obtain ⟨a4, c4, rfl⟩ := ho4.slice; have HO4 := Lib.hid ho4; have HA4 := Lib.hid (HO3.out.below hb4); have HQ4 := Lib.hid (HQ3.out.below hb4); have HB4 := Lib.hid (HB3.out.trans (hb4.mono HB3.out.size)); clear hb4 ho4)
    | (go_at_call 14; (with_reducible refine (RP.out _ HB4.out).mono ?_); rintro e w5 ⟨rfl, hb5⟩; have HO5 := Lib.hid (HO4.out.below hb5); have HA5 := Lib.hid (HA4.out.below hb5); have HQ5 := Lib.hid (HQ4.out.below hb5); have HB5 := Lib.hid (HB4.out.trans (hb5.mono HB4.out.size)); have hba := HA5.out.back; clear hb5)
    | (go_at_call 15; (with_reducible refine (KP.out _ _ HB5.out HQ5.out).mono ?_); rintro e w6 ⟨rfl, hb6⟩; have HO6 := Lib.hid (HO5.out.below hb6); have HA6 := Lib.hid (HA5.out.below hb6); have HB6 := Lib.hid (HB5.out.trans (hb6.mono HB5.out.size)); clear hb6))
  · go_ret
    exact ⟨rfl, HB1.out⟩
  · have PS : Hid (PrSt w w6 a3 out.length w3.heap.size (.slice a4 out.length c4) out) := Lib.hid ⟨HB6.out, HA6.out.writes rfl, HO6.out, fun g hg hn => by
      have := HG3.out.2 g (by rw [hg]; rfl)
      have := HG3.out.1
      omega⟩
    clear HE RO PR RP KP HB1 HB2 HB3 HB4 HB5 HO3 HO4 HO5 HA4 HA5 HQ2 HQ3 HQ4 HQ5 hba
    go_loopw [12] (fun i wr => ∃ k : Nat, i = .int .i64 k ∧ k ≤ out.length ∧ Hid (PrSt w wr a3 out.length w3.heap.size (.slice a4 out.length c4) out)) (fun i _ => out.length - (intOf i).toNat)
    case atStart => exact ⟨0, rfl, Nat.zero_le _, PS⟩
    case round =>
      obtain ⟨k, rfl, hk, HP⟩ := hrel
      clear PS
      by_cases hlt : k < out.length
      · obtain ⟨g, u, rfl, hc, hf⟩ := HP.out.hw k hlt
        have hgs := World.block_lt_of_cell? _ _ hc
        have q53 : decide ((k : Int) < (out.length : Int)) = true := decide_eq_true (by omega)
        go_wp2_with fail
        go_roundw
        case rel => exact ⟨k + 1, by go_num, by omega, Lib.hid (HP.out.set (by omega) _ _)⟩
        case measure => simp [intOf]; omega
      · have q53 : decide ((k : Int) < (out.length : Int)) = false := decide_eq_false (by omega)
        have hback := HP.out.ho.back
        go_wp2_with fail
        go_ret
        exact ⟨by simp, HP.out.hb⟩
end Go.Proofs.YtdegonmkikfghaaGreatDoor
