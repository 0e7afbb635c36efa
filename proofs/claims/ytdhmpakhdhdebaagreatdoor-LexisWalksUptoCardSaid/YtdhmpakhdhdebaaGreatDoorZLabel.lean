/-
  names.Label, and what the reference needs for it: contracts. By an AI agent.
-/
import Derived.Test.YtdhmpakhdhdebaaGreatDoorZRdW0
import Derived.Test.YtdhmpakhdhdebaaGreatDoorZBar0
import Derived.Deep.RegionHeld3
import Derived.StillTailTactics
namespace Go.Proofs.YtdhmpakhdhdebaaGreatDoor
open Go.Lib (hid)
open Go.RowKit
set_option maxRecDepth 100000
theorem infoI64 : (Tryz.prog.info? 3).map (fun i => (i.zero, i.size, i.bytes)) = some (some (.int .i64 0), 1, 8) := by kernel_rfl
def I64 (n : Int) : Value := .int .i64 n
theorem intAt {w : World} {b o : Nat} {sc : List Int} (h : At w (some ⟨b, o, none⟩) (sc.map I64)) {k : Nat} (hk : k < sc.length) : w.cell? ⟨b, o + k, none⟩ = some (.int .i64 sc[k]) := by
 rw [h.get (j := k) (by simpa using hk)]
 simp [I64]
def ScalOut (o : Option (List Int)) (w : World) (e : Ending) (w' : World) : Prop :=
 Below w.heap.size w w' /\ match o with
  | none => e = .returned (.tuple #[.slice none 0 0, .bool false])
  | some sc => ∃ a c, e = .returned (.tuple #[.slice a sc.length c, .bool true]) /\ At w' a (sc.map I64)
theorem ScalOut.none_mk {o : Option (List Int)} {w w' : World} (h : o = none) (hb : Below w.heap.size w w') : ScalOut o w (.returned (.tuple #[.slice none 0 0, .bool false])) w' := by subst h; exact ⟨hb, rfl⟩
theorem ScalOut.some_mk {o : Option (List Int)} {w w' : World} {sc : List Int} {v : Value} {base : Nat} {e : TypeId} (h : o = some sc) (hb : Below w.heap.size w w') (hv : w'.ownsRow base e 1 v sc.length (sc.map I64)) : ScalOut o w (.returned (.tuple #[v, .bool true])) w' := by
 subst h
 obtain ⟨a, c, rfl, _, _, ha⟩ := ownsRow_at hv
 exact ⟨hb, a, c, rfl, ha⟩
set_option maxHeartbeats 800000 in
theorem scalars_l (l : List UInt8) (w : World) (hl : l.length <= 16777216) :
  Calls Tryz.prog 187 #[.string (B l)] w fun e w' => ScalOut (scalF l 0) w e w' := by
 obtain ⟨i0, hi, hz0, hz1, hz2⟩ := info_parts infoI64
 have NEXT := hid (fun (j : Nat) (hj : j < l.length) (v : Int) (n : Nat) (h : nextAt l j = (v, n)) (w : World) => h ▸ refNext_l l j w (by omega) (by omega))
 go_enter Tryz.func187, Tryz.ntmps187
 go_wp2_with fail
 go_loopw [4, 5] (fun v i wr => ∃ (j : Nat) (acc : List Int), i = .int .i64 j /\ j <= l.length /\ acc.length <= j /\ Hid (scalF l 0 = (scalF l j).map (acc ++ ·)) /\ wr.ownsRow w.heap.size 3 1 v acc.length (acc.map I64) /\ Below w.heap.size w wr) (fun _ i _ => l.length - (intOf i).toNat)
 case atStart => exact ⟨0, [], rfl, Nat.zero_le _, Nat.le_refl _, hid (by cases scalF l 0 <;> simp), World.ownsRow_nil _ _ _ _, Below.refl _ _⟩
 case round =>
  obtain ⟨j, acc, rfl, hj, hacc, HS, hown, hb⟩ := hrel
  by_cases hlt : j < l.length
  ·obtain ⟨v, n, hq⟩ : ∃ v n, nextAt l (j : Int) = (v, n) := ⟨_, _, rfl⟩
   have N2 := hid (NEXT.out j hlt v n hq)
   by_cases hn : n = 0
   ·have HE : Hid (scalF l 0 = none) := hid (by rw [HS.out, scalF_none hlt (by rw [hq, hn])]; rfl)
    have e0 : ((n : Int) == 0) = true := by rw [hn]; rfl
    clear hq hn HS
    go_wp2_with (go_at_call 64; refine (N2.out _).mono ?_; rintro e w1 ⟨rfl, hx1⟩; replace hb := hb.trans (hx1.mono hb.size); clear hx1; unfold pairI)
    go_ret2
    exact ScalOut.none_mk HE.out hb
   ·have e0 : ((n : Int) == 0) = false := beq_eq_false_iff_ne.2 (by omega)
    have hbd := nextAt_bound hq hn
    have hjn : j + n <= l.length := by omega
    have hjn1 : j < j + n := by omega
    have HE : Hid (scalF l 0 = (scalF l (j + n)).map ((acc ++ [v]) ++ ·)) := hid (by rw [HS.out, scalF_go hlt hq hn, Option.map_map]; congr 1; funext t; simp)
    clear hq hn HS hbd
    go_wp2_with (first | (go_at_call 64; refine (N2.out _).mono ?_; rintro e w1 ⟨rfl, hx1⟩; unfold pairI; have hown1 := ownsRow_below hown hx1; replace hb := hb.trans (hx1.mono hb.size); clear hx1 hown) | (at_builtin; refine wpList_append_own _ rfl (.tmp 20) (.tmp 22) 195 rfl w.heap.size 3 i0 (.int .i64 0) 1 8 Tryz.underlying195 hi hz0 hz1 hz2 rfl (by decide) _ _ _ rfl (hown1.alloc _) ⟨w1.heap.size, 0, none⟩ 1 1 [.int .i64 v] rfl rfl ?c1 ?c2 ?c3 ?c4 ?c5 ?_))
    case c1 => exact cell_one _ _ _
    case c2 => intro u hu; simp at hu; subst hu; rfl
    case c3 => unfold maxLen; omega
    case c4 => omega
    case c5 => have := hb.size; simp; omega
    intro v' w2 hown2 hg2 _
    have hown3 : w2.ownsRow w.heap.size 3 1 v' (acc ++ [v]).length ((acc ++ [v]).map I64) := by simpa [I64] using hown2
    have hb2 : Below w.heap.size w w2 := (hb.alloc hb.size _).grown hg2 (by have := hb.size; simp; omega) (fun j hj => (hown1.lt j hj).1)
    clear hown1 hown2 hg2 hb
    go_wp2_with fail
    go_roundw
    case rel => exact ⟨j + n, acc ++ [v], by go_num, hjn, by simp; omega, HE, hown3, hb2⟩
    case measure => simp [intOf]; omega
  ·obtain rfl : j = l.length := by omega
   have HE : Hid (scalF l 0 = some acc) := hid (by rw [HS.out, scalF_end (Nat.le_refl _)]; simp)
   clear HS
   go_wp2_with fail
   go_ret2
   exact ScalOut.some_mk HE.out hb hown
set_option maxHeartbeats 800000 in
theorem shaped_l (sc : List Int) (a : Option Addr) (c : Nat) (w : World) (hl : sc.length <= 16777216) (h1 : At w a (sc.map I64)) :
  Calls Tryz.prog 188 #[.slice a sc.length c] w fun e w' => e = .returned (.bool (okRest (sc.drop 1))) /\ Below w.heap.size w w' := by
 have FOL := hid refFollow_any
 have H1 := hid h1
 clear h1
 go_enter Tryz.func188, Tryz.ntmps188
 go_wp2_with fail
 go_loopw [3] (fun i wr => ∃ k : Nat, i = .int .i64 k /\ 1 <= k /\ (k <= sc.length \/ k = 1) /\ Hid (okRest (sc.drop 1) = okRest (sc.drop k)) /\ Below w.heap.size w wr) (fun i _ => sc.length - (intOf i).toNat)
 case atStart => exact ⟨1, rfl, Nat.le_refl _, .inr rfl, rfl, Below.refl _ _⟩
 case round =>
  obtain ⟨k, rfl, hk1, hk, HS, hb⟩ := hrel
  by_cases hlt : k < sc.length
  ·obtain ⟨b1, o1, rfl⟩ := H1.out.place (by simp; omega)
   have hcell : ∀ wx, Below w.heap.size w wx -> wx.cell? ⟨b1, o1 + k, none⟩ = some (.int .i64 sc[k]) := fun wx hx => intAt (H1.out.below hx) hlt
   have hc := hcell wr hb
   have hd := List.drop_eq_getElem_cons hlt
   obtain ⟨x, hx⟩ : ∃ x, sc[k] = x := ⟨_, rfl⟩
   rw [hx] at hc hd
   have HCE := hid (fun wx h => (hx ▸ hcell wx h : wx.cell? ⟨b1, o1 + k, none⟩ = some (.int .i64 x)))
   clear hcell hx
   cases hf : followB x with
   | true =>
    have HS2 : Hid (okRest (sc.drop 1) = okRest (sc.drop (k + 1))) := hid (by rw [HS.out, hd, okRest_follow hf])
    clear hd HS
    go_wp2_with (go_at_call 184; refine (FOL.out x _).mono ?_; rintro e w2 ⟨rfl, hx1⟩; replace hb := hb.trans (hx1.mono hb.size); clear hx1)
    go_roundw
    case rel => exact ⟨k + 1, by go_num, by omega, by omega, HS2, hb⟩
    case measure => simp [intOf]; omega
   | false =>
    by_cases hx4 : x = 46
    ·subst hx4
     by_cases hlast : k + 1 = sc.length
     ·have HE : Hid (okRest (sc.drop 1) = false) := hid (by rw [HS.out, hd, hlast, List.drop_length]; decide)
      have e1 : ((k : Int) == (sc.length : Int) - 1) = true := beq_iff_eq.2 (by omega)
      clear hd HS hlast
      go_wp2_with (go_at_call 184; refine (FOL.out 46 _).mono ?_; rintro e w2 ⟨rfl, hx1⟩; replace hb := hb.trans (hx1.mono hb.size); have hc2 := HCE.out _ hb; clear hx1)
      go_ret
      exact ⟨ret_bool HE.out.symm, hb⟩
     ·have HS2 : Hid (okRest (sc.drop 1) = okRest (sc.drop (k + 1))) := hid (by rw [HS.out, hd, okRest_dot]; intro h; have := congrArg List.length h; simp at this; omega)
      have e1 : ((k : Int) == (sc.length : Int) - 1) = false := beq_eq_false_iff_ne.2 (by omega)
      clear hd HS hlast
      go_wp2_with (go_at_call 184; refine (FOL.out 46 _).mono ?_; rintro e w2 ⟨rfl, hx1⟩; replace hb := hb.trans (hx1.mono hb.size); have hc2 := HCE.out _ hb; clear hx1)
      go_roundw
      case rel => exact ⟨k + 1, by go_num, by omega, by omega, HS2, hb⟩
      case measure => simp [intOf]; omega
    ·have HE : Hid (okRest (sc.drop 1) = false) := hid (by rw [HS.out, hd, okRest_other hf hx4])
     have e1 : (x != 46) = true := by rw [bne_iff_ne]; exact hx4
     clear hd HS hx4
     go_wp2_with (go_at_call 184; refine (FOL.out x _).mono ?_; rintro e w2 ⟨rfl, hx1⟩; replace hb := hb.trans (hx1.mono hb.size); have hc2 := HCE.out _ hb; clear hx1)
     go_ret
     exact ⟨ret_bool HE.out.symm, hb⟩
  ·have HE : Hid (okRest (sc.drop 1) = true) := hid (by rw [HS.out, List.drop_of_length_le (by omega)]; rfl)
   clear HS
   go_wp2_with fail
   go_ret
   exact ⟨ret_bool HE.out.symm, hb⟩
def labelNum (l : List UInt8) : Int := if wholeR labelB l then 0 else 60
def prefixNum (l : List UInt8) : Int := if l = [] then 0 else if wholeR baseB l then 0 else 62
theorem label_l (l : List UInt8) (w : World) (hl : l.length <= 16777216) (hT : TabAt w) :
  Calls Tryz.prog 134 #[.string (B l)] w fun e w' => e = .returned (.int .i64 (labelNum l)) /\ w' = w := by
 have hr := run_whole labelB l
 obtain ⟨n, hn⟩ : ∃ n, runF labelB l 0 = n := ⟨_, rfl⟩
 have R := hid (hn ▸ labelAt_l l 0 w (by omega) (by omega) hT)
 rw [hn] at hr
 clear hT hn
 by_cases h0 : n = 0
 ·have HE : Hid (labelNum l = 60) := hid (by unfold labelNum; rw [<- hr, decide_eq_false (by omega)]; rfl)
  have e0 : ((n : Int) == 0) = true := by rw [h0]; rfl
  clear hr h0
  go_enter Tryz.func134, Tryz.ntmps134
  go_wp2_with (go_at_call 98; refine R.out.mono ?_; rintro e w1 ⟨rfl, rfl⟩)
  go_ret
  exact ⟨ret_i64 HE.out.symm, rfl⟩
 have e0 : ((n : Int) == 0) = false := beq_eq_false_iff_ne.2 (by omega)
 by_cases h1 : n = l.length
 ·have HE : Hid (labelNum l = 0) := hid (by unfold labelNum; rw [<- hr, decide_eq_true ⟨h0, h1⟩]; rfl)
  have e1 : ((n : Int) != (l.length : Int)) = false := by rw [h1]; simp
  clear hr h0 h1
  go_enter Tryz.func134, Tryz.ntmps134
  go_wp2_with (go_at_call 98; refine R.out.mono ?_; rintro e w1 ⟨rfl, rfl⟩)
  go_ret
  exact ⟨ret_i64 HE.out.symm, rfl⟩
 ·have HE : Hid (labelNum l = 60) := hid (by unfold labelNum; rw [<- hr, decide_eq_false (by omega)]; rfl)
  have e1 : ((n : Int) != (l.length : Int)) = true := by rw [bne_iff_ne]; omega
  clear hr h0 h1
  go_enter Tryz.func134, Tryz.ntmps134
  go_wp2_with (go_at_call 98; refine R.out.mono ?_; rintro e w1 ⟨rfl, rfl⟩)
  go_ret
  exact ⟨ret_i64 HE.out.symm, rfl⟩
end Go.Proofs.YtdhmpakhdhdebaaGreatDoor
namespace Go.Proofs.YtdhmpakhdhdebaaGreatDoor
open Go.Lib (hid)
open Go.RowKit
set_option maxRecDepth 100000
theorem unescape_ok {way : Int} {l t : List UInt8} (h : unescF way l 0 = .inl t) (hl : l.length <= 16777216) (w : World) :
  Calls Tryz.prog 142 #[.string (B l), .int .i64 way] w fun e w' => e = .returned (.tuple #[.string (B t), .nilIface]) /\ Below w.heap.size w w' :=
 (unescape_l way l w hl).mono fun e w' => by
  rw [h]
  rintro ⟨⟨v, rfl, hv⟩, hb⟩
  obtain rfl : v = .nilIface := hv
  exact ⟨rfl, hb⟩
theorem unescape_bad {way : Int} {l : List UInt8} {p : Nat} {n : Int} (h : unescF way l 0 = .inr (p, n)) (hl : l.length <= 16777216) (w : World) :
  Calls Tryz.prog 142 #[.string (B l), .int .i64 way] w fun e w' => ∃ b, e = .returned (.tuple #[.string ⟨#[]⟩, .iface 91 (.pointer (some ⟨b, 0, none⟩))]) /\ ErrIs w' (.iface 91 (.pointer (some ⟨b, 0, none⟩))) (.inr (p, n)) /\ Below w.heap.size w w' :=
 (unescape_l way l w hl).mono fun e w' => by
  rw [h]
  rintro ⟨⟨v, rfl, hv⟩, hb⟩
  have hv2 := hv
  obtain ⟨b, rfl, _, _⟩ := hv
  exact ⟨b, rfl, hv2, hb⟩
end Go.Proofs.YtdhmpakhdhdebaaGreatDoor
