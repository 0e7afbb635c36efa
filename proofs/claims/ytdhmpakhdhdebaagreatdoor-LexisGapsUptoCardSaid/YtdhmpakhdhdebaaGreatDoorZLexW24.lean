/-
  tesseralaw10.bare: a contract. By an AI agent.
-/
import Derived.Test.YtdhmpakhdhdebaaGreatDoorZLexW23
namespace Go.Proofs.YtdhmpakhdhdebaaGreatDoor
open Go.RowKit
set_option maxRecDepth 100000
def bareT (t : TokL) : TokL := { t with at_ := 0, fin := 0 }
theorem wpList_append_tok {ops : Array Oper} {rest : List Oper} {o : Oper} {a : Act} {w : World} {Q : Exit -> Act -> World -> Prop} (hgd : o.guard = none) (s x : Operand)
   (ho : o.op = .call { callee := .builtin .append, args := #[s, x], argTypes := #[44, 44] })
   (base : Nat) (v : Value) (l : List TokL) (hs : a.eval s = v) (w0 : World) (hown : TOwn base v l w0) (q : TokL) (T : TypeId) (hw : w = w0.alloc (.cells (tokC q).toArray T))
   (hx : a.eval x = .slice (some ⟨w0.heap.size, 0, none⟩) 1 1) (hl : l.length <= 8388608) (u : World) (hu : Below base u w0) (hbase : base <= w0.heap.size)
   (h : ∀ v' w', TOwn base v' (l ++ [q]) w' -> Below base u w' -> wpList Tryz.prog ops Q rest (a.put o.dst v') w') : wpList Tryz.prog ops Q (o :: rest) a w := by
 subst hw
 obtain ⟨i0, hi, hz0, hz1, hz2⟩ := info_parts infoT
 refine wpList_append_own (P := Tryz.prog) _ hgd s x 44 ho base 50 i0 _ 6 72 Tryz.underlying44 hi hz0 hz1 hz2 rfl (by decide) v l.length (toksC l) hs (World.ownsRow.alloc hown _)
   ⟨w0.heap.size, 0, none⟩ 1 1 (tokC q) hx rfl (cell_row w0 (tokC q) T) (oneCell_tok q) (by unfold maxLen; omega) (by omega) (by simp; omega) ?_
 intro v' w' h1 h2 _
 refine h v' w' ?_ ?_
 · unfold TOwn
   rw [toksC_snoc, List.length_append, List.length_singleton]
   exact h1
 · exact (hu.alloc hbase _).grown h2 (by simp; omega) (fun k hk => (tok_base hown k hk).1)
set_option maxHeartbeats 3200000 in
theorem bare_l (l : List TokL) (va : Value) (w : World) (ha : TView w va l) (hl : l.length <= 4194304) :
   Calls Tryz.prog 22 #[va] w fun e w' => (∃ b cap, e = .returned (.slice b (l.map bareT).length cap) /\ (l.map bareT).length <= cap /\ At w' b (toksC (l.map bareT))) /\ Below w.heap.size w w' := by
 obtain ⟨a, ca, rfl, ha1, ha2⟩ := ha
 have HA := Lib.hid ha2
 clear ha2
 go_enter Tryz.func22, Tryz.ntmps22
 go_wp2_with fail
 go_loopw [3, 4] (fun v s wr => ∃ k : Nat, s = .int .i64 k /\ k <= l.length /\ Hid (TOwn w.heap.size v ((l.take k).map bareT) wr) /\ Hid (Below w.heap.size w wr)) (fun _ s _ => l.length - (intOf s).toNat)
 case atStart => exact ⟨0, rfl, Nat.zero_le _, Lib.hid (TOwn.nil _ _), Lib.hid (Below.refl _ _)⟩
 case round =>
   obtain ⟨k, rfl, hk, HO, HB⟩ := hrel
   by_cases hlt : k < l.length
   · have c1 : decide ((k : Int) < (l.length : Int)) = true := decide_eq_true (by omega)
     have c2 : decide (k < l.length) = true := decide_eq_true hlt
     have i0 : 0 <= (k : Int) := by omega
     have i1 : (k : Int) < (l.length : Int) := by omega
     have i2 : k < ca := by omega
     obtain ⟨g, o, rfl⟩ := HA.out.place (by rw [toksC_len]; omega)
     have HA2 := Lib.hid (HA.out.below HB.out)
     obtain ⟨a0, a1, a2, a3, a4, a5⟩ := tok_at6 HA2.out hlt
     have hlen : ((l.take k).map bareT).length = k := by simp; omega
     have hnext : (l.take (k + 1)).map bareT = (l.take k).map bareT ++ [bareT l[k]] := by rw [List.take_succ_eq_append_getElem hlt, List.map_append]; rfl
     have HN := Lib.hid hnext
     clear hnext
     generalize l[k] = t at a0 a1 a2 a3 a4 a5 HN
     obtain ⟨vb, vc, hv, hvc, hvat⟩ := TOwn.view HO.out
     rw [hlen] at hv hvc
     subst hv
     have hsz := HB.out.size
     go_wp2_with (at_builtin; refine wpList_append_tok rfl (.tmp 18) (.tmp 20) rfl w.heap.size _ ((l.take k).map bareT) rfl (wr.alloc (.cells (tokC (bareT t)).toArray 50)) (World.ownsRow.alloc HO.out _) (bareT t) 50 rfl (by rw [World.size_alloc]; rfl) (by rw [hlen]; omega) w (HB.out.alloc hsz _) (by simp; omega) ?_; intro v6 w6 ho6 hb6; have HO6 := Lib.hid ho6; have HB6 := Lib.hid hb6; clear ho6 hb6)
     go_roundw
     case rel => exact ⟨k + 1, by go_num, by omega, by rw [HN.out]; exact HO6, HB6⟩
     case measure => simp [intOf]; omega
   · have c1 : decide ((k : Int) < (l.length : Int)) = false := decide_eq_false (by omega)
     have c2 : decide (k < l.length) = false := decide_eq_false hlt
     have hkl : l.take k = l := List.take_of_length_le (by omega)
     rw [hkl] at HO
     obtain ⟨vb, vc, rfl, hvc, hvat⟩ := TOwn.view HO.out
     go_wp2_with fail
     go_ret
     exact ⟨⟨_, _, rfl, hvc, hvat⟩, HB.out⟩
end Go.Proofs.YtdhmpakhdhdebaaGreatDoor
