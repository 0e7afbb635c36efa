/-
  Parse of a loose text: how many unlike quads it meets; its answer. By an AI agent.
-/
import Derived.Test.YtdegonmkikfghaaGreatDoorZLoose0
import Derived.Test.YtdegonmkikfghaaGreatDoorZSort0
import Derived.Test.YtdegonmkikfghaaGreatDoorZJoinsW
import Derived.Test.YtdegonmkikfghaaGreatDoorZAwk0
import Derived.Test.YtdegonmkikfghaaGreatDoorZNqText
namespace Go.Proofs.YtdegonmkikfghaaGreatDoor
open Go.RowKit
set_option maxRecDepth 1000000
theorem readP_from : ∀ (pre : List (Nat × List UInt8)) (a b : List QuadL), pre.foldl stepP (.inl a) = .inl b -> ∀ q ∈ b, q ∈ a \/ ∃ x ∈ pre, lineAt x.2 = .inl (some q)
 | [], a, b, h, q, hq => by cases h; exact .inl hq
 | x :: r, a, b, h, q, hq => by
   rw [List.foldl_cons] at h
   obtain ⟨y, hy⟩ : ∃ y, lineAt x.2 = y := ⟨_, rfl⟩
   simp only [stepP, hy] at h
   rcases y with (_ | z) | f
   · rcases readP_from r a b h q hq with h1 | ⟨x', h1, h2⟩
     · exact .inl h1
     · exact .inr ⟨x', List.mem_cons_of_mem _ h1, h2⟩
   · rcases readP_from r _ b h q hq with h1 | ⟨x', h1, h2⟩
     · rcases (mem_putQ _ _ _).1 h1 with h1 | rfl
       · exact .inl h1
       · exact .inr ⟨x, List.mem_cons_self .., hy⟩
     · exact .inr ⟨x', List.mem_cons_of_mem _ h1, h2⟩
   · simp only [stepP_stuck] at h; cases h
theorem lines_each (l : List UInt8) : ∀ (k i : Nat), l.length - i <= k -> (eachF l i).2 = none -> ∀ x ∈ linesL l i, ∀ q, lineAt x.2 = .inl (some q) -> q ∈ (eachF l i).1.map (·.2)
 | k, i, hk, hn => by
   by_cases h : l.length <= i
   · rw [linesL_end h]; intro x hx; cases hx
   have hge := eolF_ge l i
   match k, hk with
   | 0, hk => omega
   | k + 1, hk =>
     rw [linesL_step (by omega)]
     obtain ⟨y, hy⟩ : ∃ y, lineAt (cutF l i (eolF l i)) = y := ⟨_, rfl⟩
     intro x hx q hq
     rcases y with (_ | z) | ⟨p, e⟩
     · rw [eachF_none (by omega) hy] at hn ⊢
       rcases List.mem_cons.1 hx with rfl | hx
       · rw [hy] at hq; cases hq
       · exact lines_each l k (eolF l i + 1) (by omega) hn x hx q hq
     · rw [eachF_some (by omega) hy] at hn ⊢
       rcases List.mem_cons.1 hx with rfl | hx
       · rw [hy] at hq; cases hq
         simp
       · have := lines_each l k (eolF l i + 1) (by omega) hn x hx q hq
         simp only [List.map_cons, List.mem_cons]
         exact .inr this
     · rw [eachF_bad (by omega) hy] at hn; cases hn
theorem reads_few {l : List UInt8} {qs : List QuadL} (h : Reads l qs) {m : List QuadL} (hm : ∀ x ∈ qs, x ∈ m) (pre : List (LineOf l)) (A : List QuadL) (hr : readP (pre.map (·.1)) = .inl A) : A.length <= m.length := by
 refine List.Nodup.length_le_of_subset (readP_good hr).1 (fun q hq => hm q ?_)
 rcases readP_from _ [] A hr q hq with h1 | ⟨x, h1, h2⟩
 · cases h1
 · obtain ⟨y, _, rfl⟩ := List.mem_map.1 h1
   rw [<- h.2]
   exact lines_each l l.length 0 (by omega) h.1 y.1 y.2 q h2
theorem parse_of_loose (gap bl : List UInt8) (l qs : List QuadL) (b : Nat) (a : Option Addr) (c : Nat) (u : World) (h : BOwn b (.slice a (bodyL gap bl qs ++ 10 :: gap).length c) (bodyL gap bl qs ++ 10 :: gap) u)
   (hg : looseB gap false = true) (hb : ∀ x ∈ bl, blankC x = true) (hn : bl.length + gap.length <= 1000) (hf : Fine l) (hl : l.length <= 1000) (hm : ∀ x, x ∈ qs ↔ x ∈ l) (hs : (bodyL gap bl qs ++ 10 :: gap).length <= 67108864) (hT : TabAt u) (hM : MaxAt u) (hU : UtAt u) (hE : ErrType u) :
   Calls Tryz.prog 25 #[.slice a (bodyL gap bl qs ++ 10 :: gap).length c] u fun e w' => (∃ pa ca, e = .returned (.tuple #[.slice pa l.length ca, .nilIface]) /\ QView w' (.slice pa l.length ca) l) /\ Below u.heap.size u w' := by
 have hq : ∀ q ∈ qs, quadN q = 0 := fun q hq => hf.2.1 q ((hm q).1 hq)
 have hl2 := body_lines (gap := gap) hn qs [] hq (Nat.zero_le _)
 rw [List.nil_append] at hl2
 have hr := reads_body hg hb qs [] [] hq (fun g h => reads_loose g.length g (Nat.le_refl _) h)
 rw [List.nil_append, List.nil_append] at hr
 refine (nqParse_big (bodyL gap bl qs ++ 10 :: gap) a c u h.at h.room.2 hs (fun x hx => by have := hl2 x hx; omega) (fun pre A _ hA => by have := reads_few hr (fun x hx => (hm x).1 hx) pre A hA; exact ⟨by omega, fun _ => by omega⟩) hT hM hU hE).mono ?_
 rintro e w' ⟨hP, hb⟩
 rw [parse_loose hg (by assumption) hf hm] at hP
 obtain ⟨v, rfl, hF⟩ := hP
 obtain ⟨pa, ca, rfl⟩ := hF.view.form
 exact ⟨⟨pa, ca, rfl, hF.view⟩, hb⟩
end Go.Proofs.YtdegonmkikfghaaGreatDoor
namespace Go.Proofs.YtdegonmkikfghaaGreatDoor
open Go.RowKit
set_option maxRecDepth 1000000
theorem loose_at {l : List UInt8} {k : Nat} (h : k < l.length) (b : Bool) : looseB (l.drop k) b = if eolC l[k] = true then looseB (l.drop (k + 1)) false else if l[k] = 35 then looseB (l.drop (k + 1)) true else if 128 <= l[k].toNat \/ (b = false /\ l[k] ≠ 32 /\ l[k] ≠ 9) then false else looseB (l.drop (k + 1)) b := by
 rw [List.drop_eq_getElem_cons h, looseB]
set_option maxHeartbeats 4000000 in
theorem loose_l (l : List UInt8) (w : World) (hl : l.length <= 1048576) :
   Calls Tryz.prog 31 #[.string (B l)] w fun e w' => e = .returned (.bool (looseB l false)) /\ w' = w := by
 go_enter Tryz.func31, Tryz.ntmps31
 go_wp2_with fail
 go_loop [3, 4] (fun b i => ∃ (k : Nat) (x : Bool), b = .bool x /\ i = .int .i64 k /\ k <= l.length /\ Hid (looseB (l.drop k) x = looseB l false)) (fun _ i => l.length - (intOf i).toNat)
 case atStart => exact ⟨0, false, rfl, rfl, Nat.zero_le _, Lib.hid rfl⟩
 case round =>
   obtain ⟨k, x, rfl, rfl, hk, HR⟩ := hrel
   by_cases hlt : k < l.length
   · have c1 : decide ((k : Int) < (l.length : Int)) = true := decide_eq_true (by omega)
     have m0 : 0 <= (k : Int) := by omega
     have m1 : (k : Int) < (l.length : Int) := by omega
     have HAT := Lib.hid (loose_at hlt x)
     by_cases h10 : l[k] = 10
     · have e1 : ((l[k].toNat : Int) == 10) = true := by rw [h10]; rfl
       have HS : Hid (looseB (l.drop (k + 1)) false = looseB l false) := Lib.hid (by rw [<- HR.out, HAT.out, if_pos (by rw [h10]; rfl)])
       clear h10
       go_wp2_with fail
       go_round
       case rel => exact ⟨k + 1, false, rfl, by go_num, by omega, HS⟩
       case measure => simp [intOf]; omega
     have e1 : ((l[k].toNat : Int) == 10) = false := beq_eq_false_iff_ne.2 (bne_iff_ne.1 (byte_nei (d := 10) h10))
     by_cases h13 : l[k] = 13
     · have e2 : ((l[k].toNat : Int) == 13) = true := by rw [h13]; rfl
       have HS : Hid (looseB (l.drop (k + 1)) false = looseB l false) := Lib.hid (by rw [<- HR.out, HAT.out, if_pos (by rw [h13]; rfl)])
       clear h10 h13
       go_wp2_with fail
       go_round
       case rel => exact ⟨k + 1, false, rfl, by go_num, by omega, HS⟩
       case measure => simp [intOf]; omega
     have e2 : ((l[k].toNat : Int) == 13) = false := beq_eq_false_iff_ne.2 (bne_iff_ne.1 (byte_nei (d := 13) h13))
     have heol : ¬ eolC l[k] = true := by unfold eolC; simp [h10, h13]
     by_cases h35 : l[k] = 35
     · have e3 : ((l[k].toNat : Int) == 35) = true := by rw [h35]; rfl
       have HS : Hid (looseB (l.drop (k + 1)) true = looseB l false) := Lib.hid (by rw [<- HR.out, HAT.out, if_neg heol, if_pos h35])
       clear h10 h13 h35 heol
       go_wp2_with fail
       go_round
       case rel => exact ⟨k + 1, true, rfl, by go_num, by omega, HS⟩
       case measure => simp [intOf]; omega
     have e3 : ((l[k].toNat : Int) == 35) = false := beq_eq_false_iff_ne.2 (bne_iff_ne.1 (byte_nei (d := 35) h35))
     by_cases hi : 128 <= l[k].toNat
     · have e4 : decide (128 <= (l[k].toNat : Int)) = true := decide_eq_true (by omega)
       have e4n : decide (128 <= l[k].toNat) = true := decide_eq_true hi
       have HF : Hid (looseB l false = false) := Lib.hid (by rw [<- HR.out, HAT.out, if_neg heol, if_neg h35, if_pos (.inl hi)])
       clear h10 h13 h35 heol hi
       go_wp2_with fail
       go_ret
       exact ⟨by rw [HF.out]; rfl, rfl⟩
     have e4 : decide (128 <= (l[k].toNat : Int)) = false := decide_eq_false (by omega)
     have e4n : decide (128 <= l[k].toNat) = false := decide_eq_false hi
     cases x with
     | true =>
       have HS : Hid (looseB (l.drop (k + 1)) true = looseB l false) := Lib.hid (by rw [<- HR.out, HAT.out, if_neg heol, if_neg h35, if_neg (by simp; omega)])
       clear h10 h13 h35 heol hi
       go_wp2_with fail
       go_round
       case rel => exact ⟨k + 1, true, rfl, by go_num, by omega, HS⟩
       case measure => simp [intOf]; omega
     | false =>
       by_cases h32 : l[k] = 32
       · have e5 : ((l[k].toNat : Int) != 32) = false := by rw [h32]; rfl
         have HS : Hid (looseB (l.drop (k + 1)) false = looseB l false) := Lib.hid (by rw [<- HR.out, HAT.out, if_neg heol, if_neg h35, if_neg (by simp [h32])])
         clear h10 h13 h35 heol hi h32
         go_wp2_with fail
         go_round
         case rel => exact ⟨k + 1, false, rfl, by go_num, by omega, HS⟩
         case measure => simp [intOf]; omega
       have e5 : ((l[k].toNat : Int) != 32) = true := bne_iff_ne.2 (bne_iff_ne.1 (byte_nei (d := 32) h32))
       by_cases h9 : l[k] = 9
       · have e6 : ((l[k].toNat : Int) != 9) = false := by rw [h9]; rfl
         have HS : Hid (looseB (l.drop (k + 1)) false = looseB l false) := Lib.hid (by rw [<- HR.out, HAT.out, if_neg heol, if_neg h35, if_neg (by simp [h9])])
         clear h10 h13 h35 heol hi h32 h9
         go_wp2_with fail
         go_round
         case rel => exact ⟨k + 1, false, rfl, by go_num, by omega, HS⟩
         case measure => simp [intOf]; omega
       have e6 : ((l[k].toNat : Int) != 9) = true := bne_iff_ne.2 (bne_iff_ne.1 (byte_nei (d := 9) h9))
       have HF : Hid (looseB l false = false) := Lib.hid (by rw [<- HR.out, HAT.out, if_neg heol, if_neg h35, if_pos (.inr ⟨rfl, h32, h9⟩)])
       clear h10 h13 h35 heol hi h32 h9
       go_wp2_with fail
       go_ret
       exact ⟨by rw [HF.out]; rfl, rfl⟩
   · have c1 : decide ((k : Int) < (l.length : Int)) = false := decide_eq_false (by omega)
     have c1n : decide (k < l.length) = false := decide_eq_false hlt
     have HF : Hid (looseB l false = true) := Lib.hid (by rw [<- HR.out, List.drop_eq_nil_of_le (by omega), looseB])
     go_wp2_with fail
     go_ret
     exact ⟨by rw [HF.out]; rfl, rfl⟩
abbrev BoxC (g : Nat) (a : Option Addr) (n c : Nat) (gap bl : List UInt8) (oa : Option Addr) (m oc : Nat) (u : World) : Prop := u.cell? ⟨g, 0, none⟩ = some (.slice a n c) /\ u.cell? ⟨g, 1, none⟩ = some (.string (B gap)) /\ u.cell? ⟨g, 2, none⟩ = some (.string (B bl)) /\ u.cell? ⟨g, 3, none⟩ = some (.slice oa m oc)
structure LIn (l : List QuadL) (gap bl : List UInt8) (ord : List Int) (a : Option Addr) (c : Nat) (oa : Option Addr) (oc g : Nat) (W : World) : Prop where
 aw : Calls Tryz.prog 29 #[] W fun e w' => e = .returned (.bool true) /\ Below W.heap.size W w'
 hv : ∀ u, Below W.heap.size W u -> Calls Tryz.prog 11 #[.slice a l.length c] u fun e w' => (∃ b, e = .returned (.bool b)) /\ Below u.heap.size u w'
 vl : ∀ u, Below W.heap.size W u -> Calls Tryz.prog 30 #[.slice a l.length c] u fun e w' => e = .returned (.tuple #[.int .i64 (validF l).1, .int .i64 (validF l).2]) /\ Below u.heap.size u w'
 lo : ∀ u, Calls Tryz.prog 31 #[.string (B gap)] u fun e w' => e = .returned (.bool (looseB gap false)) /\ w' = u
 bx : ∀ u, Below W.heap.size W u -> BoxC g a l.length c gap bl oa ord.length oc u
 vw : ∀ u, Below W.heap.size W u -> QAt u a l
 oo : ∀ u, Below W.heap.size W u -> At u oa (ord.map (Value.int .i64))
 tx : ∀ t : TermL, (∃ q ∈ l, t = q.s \/ t = q.p \/ t = q.o \/ t = q.g) -> termN t = 0 -> ∀ u, Below W.heap.size W u -> Calls Tryz.prog 32 #[.agg #[.int .i64 t.kind, .string (B t.text), .string (B t.type), .string (B t.lang)]] u fun e w' => e = .returned (.tuple #[.string (B (textF t)), .int .i64 0]) /\ Below u.heap.size u w'
 sq : ∀ (u : World) (v : Value), Below W.heap.size W u -> QView u v l -> Calls Tryz.prog 27 #[v, .slice a l.length c] u fun e w' => e = .returned (.bool true) /\ Below u.heap.size u w'
 ps : ∀ (b : Nat) (qs : List QuadL) (va : Option Addr) (vc : Nat) (u : World), Below W.heap.size W u -> BOwn b (.slice va (bodyL gap bl qs ++ 10 :: gap).length vc) (bodyL gap bl qs ++ 10 :: gap) u -> looseB gap false = true -> (∀ x ∈ bl, blankC x = true) -> bl.length + gap.length <= 1000 -> Fine l -> l.length <= 1000 -> (∀ x, x ∈ qs ↔ x ∈ l) -> (bodyL gap bl qs ++ 10 :: gap).length <= 67108864 -> Calls Tryz.prog 25 #[.slice va (bodyL gap bl qs ++ 10 :: gap).length vc] u fun e w' => (∃ pa ca, e = .returned (.tuple #[.slice pa l.length ca, .nilIface]) /\ QView w' (.slice pa l.length ca) l) /\ Below u.heap.size u w'
theorem lin_l (l : List QuadL) (gap bl : List UInt8) (ord : List Int) (a : Option Addr) (c : Nat) (oa : Option Addr) (oc : Nat) (w : World) (hV : QView w (.slice a l.length c) l) (hN : Neat l) (hO : At w oa (ord.map (Value.int .i64))) (hg : gap.length <= 1048576) (hT : TabAt w) (hM : MaxAt w) (hU : UtAt w) (hE : ErrType w) :
   LIn l gap bl ord a c oa oc w.heap.size (w.alloc (.cells #[.slice a l.length c, .string (B gap), .string (B bl), .slice oa ord.length oc] 70)) := by
 have hA : Below w.heap.size w (w.alloc (.cells #[.slice a l.length c, .string (B gap), .string (B bl), .slice oa ord.length oc] 70)) := (Below.refl _ _).alloc (Nat.le_refl _) _
 have hB : ∀ u, Below (w.alloc (.cells #[.slice a l.length c, .string (B gap), .string (B bl), .slice oa ord.length oc] 70)).heap.size (w.alloc (.cells #[.slice a l.length c, .string (B gap), .string (B bl), .slice oa ord.length oc] 70)) u -> Below w.heap.size w u := fun u h => hA.trans (h.mono hA.size)
 refine ⟨awake_l _ (hT.below hA) (hM.below hA) (hU.below hA) (hE.below hA), fun u h => heavy_l l _ u (hV.below (hB u h)) hN.2 (by have := hN.1; omega), fun u h => validQ_l l _ u (hT.below (hB u h)) (hM.below (hB u h)) (hV.below (hB u h)) hN, fun u => loose_l gap u hg, fun u h => ?_, fun u h => ?_, fun u h => hO.below (hB u h), fun t ht hn u h => ?_, fun u v h hv => sameQuads_t l _ _ u hv (hV.below (hB u h)) (by have := hN.1; omega), fun b qs va vc u h hb h1 h2 h3 h4 h5 h6 h7 => parse_of_loose gap bl l qs b va vc u hb h1 h2 h3 h4 h5 h6 h7 (hT.below (hB u h)) (hM.below (hB u h)) (hU.below (hB u h)) (hE.below (hB u h))⟩
 · have e : u.heap[w.heap.size]? = some (.cells #[.slice a l.length c, .string (B gap), .string (B bl), .slice oa ord.length oc] 70) := (h.block w.heap.size (by simp)).trans (heap_alloc_new _ _)
   have r := rowAt_of_heap (L := [.slice a l.length c, .string (B gap), .string (B bl), .slice oa ord.length oc]) e
   exact ⟨r.cell (j := 0) (by simp), r.cell (j := 1) (by simp), r.cell (j := 2) (by simp), r.cell (j := 3) (by simp)⟩
 · obtain ⟨_, _, he, _, hq⟩ := hV.below (hB u h)
   cases he
   exact hq
 · obtain ⟨q, hq, hs⟩ := ht
   have hS := hN.2 q hq t hs
   exact termText_ok hn u (hT.below (hB u h)) (hM.below (hB u h)) hS.1 hS.2.1 hS.2.2
theorem bown_ne {base : Nat} {v : Value} {l : List UInt8} {w : World} {g : Nat} {cs : Array Value} {T : TypeId} {m : Nat × Nat} (h : BOwn base v l w) (hg : w.heap[g]? = some (.cells cs T m)) (hT : T ≠ 5) : some g ≠ v.ownBlock := by
 intro e
 rcases h.2 with ⟨rfl, _⟩ | ⟨g', cap, cur, rfl, _, h3, _⟩
 · simp [Value.ownBlock] at e
 · simp [Value.ownBlock] at e
   subst e
   rw [h3] at hg
   cases hg
   exact hT rfl
theorem bown_drewN {base : Nat} {v : Value} {l : List UInt8} {w : World} (h : BOwn base v l w) (n : Nat) : BOwn base v l (w.drewN n) := h
theorem keep_block {w w' : World} {v : Value} {base g : Nat} {l : List UInt8} {cs : Array Value} {T : TypeId} {m : Nat × Nat} (h : BOwn base v l w) (hg : w.heap[g]? = some (.cells cs T m)) (hT : T ≠ 5) (hgr : w.grownBy w' v.ownBlock) : w'.heap[g]? = some (.cells cs T m) :=
 (hgr.block g (Array.getElem?_eq_some_iff.1 hg).1 (bown_ne h hg hT)).trans hg
theorem At_byte (w : World) (c : UInt8) (t : TypeId) : At (w.alloc (.cells #[.int .u8 (c.toNat : Int)] t)) (some ⟨w.heap.size, 0, none⟩) (([c] : List UInt8).map U8) := at_one w (.int .u8 (c.toNat : Int)) t
theorem quadC_slot (q : QuadL) : ∀ j, j < 4 -> (quadC q)[4 * j]? = some (.int .i64 (slotT q j).kind) /\ (quadC q)[4 * j + 1]? = some (.string (B (slotT q j).text)) /\ (quadC q)[4 * j + 2]? = some (.string (B (slotT q j).type)) /\ (quadC q)[4 * j + 3]? = some (.string (B (slotT q j).lang))
 | 0, _ => ⟨rfl, rfl, rfl, rfl⟩
 | 1, _ => ⟨rfl, rfl, rfl, rfl⟩
 | 2, _ => ⟨rfl, rfl, rfl, rfl⟩
 | 3, _ => ⟨rfl, rfl, rfl, rfl⟩
 | j + 4, h => by omega
theorem slot_cells {w : World} {g : Nat} {q : QuadL} {T : TypeId} (h : w.heap[g]? = some (.cells (quadC q).toArray T (0, 0))) {j : Nat} (hj : j < 4) :
   w.cell? ⟨g, 4 * j, none⟩ = some (.int .i64 (slotT q j).kind) /\ w.cell? ⟨g, 4 * j + 1, none⟩ = some (.string (B (slotT q j).text)) /\ w.cell? ⟨g, 4 * j + 2, none⟩ = some (.string (B (slotT q j).type)) /\ w.cell? ⟨g, 4 * j + 3, none⟩ = some (.string (B (slotT q j).lang)) := by
 obtain ⟨h0, h1, h2, h3⟩ := quadC_slot q j hj
 have key : ∀ i v, (quadC q)[i]? = some v -> w.cell? ⟨g, i, none⟩ = some v := fun i v hv => by simp [World.cell?, h, hv]
 exact ⟨key _ _ h0, key _ _ h1, key _ _ h2, key _ _ h3⟩
end Go.Proofs.YtdegonmkikfghaaGreatDoor
namespace Go.Proofs.YtdegonmkikfghaaGreatDoor
open Go.RowKit
set_option maxRecDepth 1000000
set_option maxHeartbeats 8000000 in
theorem loose_bad (l : List QuadL) (gap bl : List UInt8) (ord : List Int) (a : Option Addr) (c : Nat) (oa : Option Addr) (oc : Nat) (w : World) (J : LIn l gap bl ord a c oa oc w.heap.size (w.alloc (.cells #[.slice a l.length c, .string (B gap), .string (B bl), .slice oa ord.length oc] 70))) (n : Int) (hv : (validF l).2 = n) (hn : n ≠ 0) :
   Calls Tryz.prog 8 #[.agg #[.slice a l.length c, .string (B gap), .string (B bl), .slice oa ord.length oc]] w fun e w' => e = .returned (.bool true) /\ Below w.heap.size w w' := by
 have HJ := Lib.hid J
 have HA : Hid (∀ u, Below (w.alloc (.cells #[.slice a l.length c, .string (B gap), .string (B bl), .slice oa ord.length oc] 70)).heap.size (w.alloc (.cells #[.slice a l.length c, .string (B gap), .string (B bl), .slice oa ord.length oc] 70)) u -> Below w.heap.size w u) := Lib.hid (fun u h => ((Below.refl _ _).alloc (Nat.le_refl _) _).trans (h.mono (by simp)))
 have k0 : (n != 0) = true := bne_iff_ne.2 hn
 have VL : Hid (∀ u, Below (w.alloc (.cells #[.slice a l.length c, .string (B gap), .string (B bl), .slice oa ord.length oc] 70)).heap.size (w.alloc (.cells #[.slice a l.length c, .string (B gap), .string (B bl), .slice oa ord.length oc] 70)) u -> Calls Tryz.prog 30 #[.slice a l.length c] u fun e w' => e = .returned (.tuple #[.int .i64 (validF l).1, .int .i64 n]) /\ Below u.heap.size u w') := Lib.hid (hv ▸ J.vl)
 clear J hv hn
 go_enter Tryz.func8, Tryz.ntmps8
 go_wp2_with (first
   | (go_at_call 29; (with_reducible refine HJ.out.aw.mono ?_); rintro e w2 ⟨rfl, hb2⟩; have HB2 := Lib.hid hb2; obtain ⟨x20, x21, x22, x23⟩ := HJ.out.bx _ HB2.out; clear hb2)
   | (go_at_call 30; (with_reducible refine (VL.out _ HB2.out).mono ?_); rintro e w3 ⟨rfl, hb3⟩; have HB3 := Lib.hid (HB2.out.trans (hb3.mono HB2.out.size)); obtain ⟨x30, x31, x32, x33⟩ := HJ.out.bx _ HB3.out; clear hb3))
 go_ret
 exact ⟨rfl, HA.out _ HB3.out⟩
set_option maxHeartbeats 8000000 in
theorem loose_tight (l : List QuadL) (gap bl : List UInt8) (ord : List Int) (a : Option Addr) (c : Nat) (oa : Option Addr) (oc : Nat) (w : World) (J : LIn l gap bl ord a c oa oc w.heap.size (w.alloc (.cells #[.slice a l.length c, .string (B gap), .string (B bl), .slice oa ord.length oc] 70))) (hf : Fine l) (hg : looseB gap false = false) :
   Calls Tryz.prog 8 #[.agg #[.slice a l.length c, .string (B gap), .string (B bl), .slice oa ord.length oc]] w fun e w' => e = .returned (.bool true) /\ Below w.heap.size w w' := by
 have HJ := Lib.hid J
 have HA : Hid (∀ u, Below (w.alloc (.cells #[.slice a l.length c, .string (B gap), .string (B bl), .slice oa ord.length oc] 70)).heap.size (w.alloc (.cells #[.slice a l.length c, .string (B gap), .string (B bl), .slice oa ord.length oc] 70)) u -> Below w.heap.size w u) := Lib.hid (fun u h => ((Below.refl _ _).alloc (Nat.le_refl _) _).trans (h.mono (by simp)))
 have VL : Hid (∀ u, Below (w.alloc (.cells #[.slice a l.length c, .string (B gap), .string (B bl), .slice oa ord.length oc] 70)).heap.size (w.alloc (.cells #[.slice a l.length c, .string (B gap), .string (B bl), .slice oa ord.length oc] 70)) u -> Calls Tryz.prog 30 #[.slice a l.length c] u fun e w' => e = .returned (.tuple #[.int .i64 (validF l).1, .int .i64 0]) /\ Below u.heap.size u w') := Lib.hid ((validF_ok l).2 hf ▸ J.vl)
 have LO : Hid (∀ u, Calls Tryz.prog 31 #[.string (B gap)] u fun e w' => e = .returned (.bool false) /\ w' = u) := Lib.hid (hg ▸ J.lo)
 clear J hf hg
 go_enter Tryz.func8, Tryz.ntmps8
 go_wp2_with (first
   | (go_at_call 29; (with_reducible refine HJ.out.aw.mono ?_); rintro e w2 ⟨rfl, hb2⟩; have HB2 := Lib.hid hb2; obtain ⟨x20, x21, x22, x23⟩ := HJ.out.bx _ HB2.out; clear hb2)
   | (go_at_call 30; (with_reducible refine (VL.out _ HB2.out).mono ?_); rintro e w3 ⟨rfl, hb3⟩; have HB3 := Lib.hid (HB2.out.trans (hb3.mono HB2.out.size)); obtain ⟨x30, x31, x32, x33⟩ := HJ.out.bx _ HB3.out; clear hb3)
   | (go_at_call 31; (with_reducible refine (LO.out _).mono ?_); rintro e w3' ⟨rfl, rfl⟩))
 go_ret
 exact ⟨rfl, HA.out _ HB3.out⟩
set_option maxHeartbeats 8000000 in
theorem loose_big1 (l : List QuadL) (gap bl : List UInt8) (ord : List Int) (a : Option Addr) (c : Nat) (oa : Option Addr) (oc : Nat) (w : World) (J : LIn l gap bl ord a c oa oc w.heap.size (w.alloc (.cells #[.slice a l.length c, .string (B gap), .string (B bl), .slice oa ord.length oc] 70))) (hf : Fine l) (hg : looseB gap false = true) (hl : 1000 < l.length) :
   Calls Tryz.prog 8 #[.agg #[.slice a l.length c, .string (B gap), .string (B bl), .slice oa ord.length oc]] w fun e w' => e = .returned (.bool true) /\ Below w.heap.size w w' := by
 have HJ := Lib.hid J
 have HA : Hid (∀ u, Below (w.alloc (.cells #[.slice a l.length c, .string (B gap), .string (B bl), .slice oa ord.length oc] 70)).heap.size (w.alloc (.cells #[.slice a l.length c, .string (B gap), .string (B bl), .slice oa ord.length oc] 70)) u -> Below w.heap.size w u) := Lib.hid (fun u h => ((Below.refl _ _).alloc (Nat.le_refl _) _).trans (h.mono (by simp)))
 have VL : Hid (∀ u, Below (w.alloc (.cells #[.slice a l.length c, .string (B gap), .string (B bl), .slice oa ord.length oc] 70)).heap.size (w.alloc (.cells #[.slice a l.length c, .string (B gap), .string (B bl), .slice oa ord.length oc] 70)) u -> Calls Tryz.prog 30 #[.slice a l.length c] u fun e w' => e = .returned (.tuple #[.int .i64 (validF l).1, .int .i64 0]) /\ Below u.heap.size u w') := Lib.hid ((validF_ok l).2 hf ▸ J.vl)
 have LO : Hid (∀ u, Calls Tryz.prog 31 #[.string (B gap)] u fun e w' => e = .returned (.bool true) /\ w' = u) := Lib.hid (hg ▸ J.lo)
 have t1 : decide ((1000 : Int) < (l.length : Int)) = true := decide_eq_true (by omega)
 have t1n : decide (1000 < l.length) = true := decide_eq_true (by omega)
 clear J hf hg
 go_enter Tryz.func8, Tryz.ntmps8
 go_wp2_with (first
   | (go_at_call 29; (with_reducible refine HJ.out.aw.mono ?_); rintro e w2 ⟨rfl, hb2⟩; have HB2 := Lib.hid hb2; obtain ⟨x20, x21, x22, x23⟩ := HJ.out.bx _ HB2.out; clear hb2)
   | (go_at_call 30; (with_reducible refine (VL.out _ HB2.out).mono ?_); rintro e w3 ⟨rfl, hb3⟩; have HB3 := Lib.hid (HB2.out.trans (hb3.mono HB2.out.size)); obtain ⟨x30, x31, x32, x33⟩ := HJ.out.bx _ HB3.out; clear hb3)
   | (go_at_call 31; (with_reducible refine (LO.out _).mono ?_); rintro e w3' ⟨rfl, rfl⟩))
 go_at_call 11
 ((with_reducible refine (HJ.out.hv _ HB3.out).mono ?_); rintro e w4 ⟨⟨hvy, rfl⟩, hb4⟩; have HB4 := Lib.hid (HB3.out.trans (hb4.mono HB3.out.size)); obtain ⟨x40, x41, x42, x43⟩ := HJ.out.bx _ HB4.out; clear hb4)
 cases hvy
 case true =>
   go_wp2_with fail
   go_ret
   exact ⟨rfl, HA.out _ HB4.out⟩
 case false =>
   go_wp2_with fail
   go_ret
   exact ⟨rfl, HA.out _ HB4.out⟩
set_option maxHeartbeats 8000000 in
theorem loose_big2 (l : List QuadL) (gap bl : List UInt8) (ord : List Int) (a : Option Addr) (c : Nat) (oa : Option Addr) (oc : Nat) (w : World) (J : LIn l gap bl ord a c oa oc w.heap.size (w.alloc (.cells #[.slice a l.length c, .string (B gap), .string (B bl), .slice oa ord.length oc] 70))) (hf : Fine l) (hg : looseB gap false = true) (hl : l.length <= 1000) (ho : 1000 < ord.length) :
   Calls Tryz.prog 8 #[.agg #[.slice a l.length c, .string (B gap), .string (B bl), .slice oa ord.length oc]] w fun e w' => e = .returned (.bool true) /\ Below w.heap.size w w' := by
 have HJ := Lib.hid J
 have HA : Hid (∀ u, Below (w.alloc (.cells #[.slice a l.length c, .string (B gap), .string (B bl), .slice oa ord.length oc] 70)).heap.size (w.alloc (.cells #[.slice a l.length c, .string (B gap), .string (B bl), .slice oa ord.length oc] 70)) u -> Below w.heap.size w u) := Lib.hid (fun u h => ((Below.refl _ _).alloc (Nat.le_refl _) _).trans (h.mono (by simp)))
 have VL : Hid (∀ u, Below (w.alloc (.cells #[.slice a l.length c, .string (B gap), .string (B bl), .slice oa ord.length oc] 70)).heap.size (w.alloc (.cells #[.slice a l.length c, .string (B gap), .string (B bl), .slice oa ord.length oc] 70)) u -> Calls Tryz.prog 30 #[.slice a l.length c] u fun e w' => e = .returned (.tuple #[.int .i64 (validF l).1, .int .i64 0]) /\ Below u.heap.size u w') := Lib.hid ((validF_ok l).2 hf ▸ J.vl)
 have LO : Hid (∀ u, Calls Tryz.prog 31 #[.string (B gap)] u fun e w' => e = .returned (.bool true) /\ w' = u) := Lib.hid (hg ▸ J.lo)
 have t1 : decide ((1000 : Int) < (l.length : Int)) = false := decide_eq_false (by omega)
 have t1n : decide (1000 < l.length) = false := decide_eq_false (by omega)
 have t2 : decide ((1000 : Int) < (ord.length : Int)) = true := decide_eq_true (by omega)
 have t2n : decide (1000 < ord.length) = true := decide_eq_true (by omega)
 clear J hf hg
 go_enter Tryz.func8, Tryz.ntmps8
 go_wp2_with (first
   | (go_at_call 29; (with_reducible refine HJ.out.aw.mono ?_); rintro e w2 ⟨rfl, hb2⟩; have HB2 := Lib.hid hb2; obtain ⟨x20, x21, x22, x23⟩ := HJ.out.bx _ HB2.out; clear hb2)
   | (go_at_call 30; (with_reducible refine (VL.out _ HB2.out).mono ?_); rintro e w3 ⟨rfl, hb3⟩; have HB3 := Lib.hid (HB2.out.trans (hb3.mono HB2.out.size)); obtain ⟨x30, x31, x32, x33⟩ := HJ.out.bx _ HB3.out; clear hb3)
   | (go_at_call 31; (with_reducible refine (LO.out _).mono ?_); rintro e w3' ⟨rfl, rfl⟩))
 go_at_call 11
 ((with_reducible refine (HJ.out.hv _ HB3.out).mono ?_); rintro e w4 ⟨⟨hvy, rfl⟩, hb4⟩; have HB4 := Lib.hid (HB3.out.trans (hb4.mono HB3.out.size)); obtain ⟨x40, x41, x42, x43⟩ := HJ.out.bx _ HB4.out; clear hb4)
 cases hvy
 case true =>
   go_wp2_with fail
   go_ret
   exact ⟨rfl, HA.out _ HB4.out⟩
 case false =>
   go_wp2_with fail
   go_ret
   exact ⟨rfl, HA.out _ HB4.out⟩
set_option maxHeartbeats 8000000 in
theorem loose_big3 (l : List QuadL) (gap bl : List UInt8) (ord : List Int) (a : Option Addr) (c : Nat) (oa : Option Addr) (oc : Nat) (w : World) (J : LIn l gap bl ord a c oa oc w.heap.size (w.alloc (.cells #[.slice a l.length c, .string (B gap), .string (B bl), .slice oa ord.length oc] 70))) (hf : Fine l) (hg : looseB gap false = true) (hl : l.length <= 1000) (ho : ord.length <= 1000) (hs : 1000 < gap.length + bl.length) (hs2 : gap.length + bl.length <= 2097152) :
   Calls Tryz.prog 8 #[.agg #[.slice a l.length c, .string (B gap), .string (B bl), .slice oa ord.length oc]] w fun e w' => e = .returned (.bool true) /\ Below w.heap.size w w' := by
 have HJ := Lib.hid J
 have HA : Hid (∀ u, Below (w.alloc (.cells #[.slice a l.length c, .string (B gap), .string (B bl), .slice oa ord.length oc] 70)).heap.size (w.alloc (.cells #[.slice a l.length c, .string (B gap), .string (B bl), .slice oa ord.length oc] 70)) u -> Below w.heap.size w u) := Lib.hid (fun u h => ((Below.refl _ _).alloc (Nat.le_refl _) _).trans (h.mono (by simp)))
 have VL : Hid (∀ u, Below (w.alloc (.cells #[.slice a l.length c, .string (B gap), .string (B bl), .slice oa ord.length oc] 70)).heap.size (w.alloc (.cells #[.slice a l.length c, .string (B gap), .string (B bl), .slice oa ord.length oc] 70)) u -> Calls Tryz.prog 30 #[.slice a l.length c] u fun e w' => e = .returned (.tuple #[.int .i64 (validF l).1, .int .i64 0]) /\ Below u.heap.size u w') := Lib.hid ((validF_ok l).2 hf ▸ J.vl)
 have LO : Hid (∀ u, Calls Tryz.prog 31 #[.string (B gap)] u fun e w' => e = .returned (.bool true) /\ w' = u) := Lib.hid (hg ▸ J.lo)
 have t1 : decide ((1000 : Int) < (l.length : Int)) = false := decide_eq_false (by omega)
 have t1n : decide (1000 < l.length) = false := decide_eq_false (by omega)
 have t2 : decide ((1000 : Int) < (ord.length : Int)) = false := decide_eq_false (by omega)
 have t2n : decide (1000 < ord.length) = false := decide_eq_false (by omega)
 have t3 : decide ((1000 : Int) < (gap.length : Int) + (bl.length : Int)) = true := decide_eq_true (by omega)
 have t3n : decide (1000 < gap.length + bl.length) = true := decide_eq_true (by omega)
 have t3w : IntKind.i64.wrap ((gap.length : Int) + (bl.length : Int)) = (gap.length : Int) + (bl.length : Int) := IntWalk.i64_in _ (by omega)
 clear J hf hg
 go_enter Tryz.func8, Tryz.ntmps8
 go_wp2_with (first
   | (go_at_call 29; (with_reducible refine HJ.out.aw.mono ?_); rintro e w2 ⟨rfl, hb2⟩; have HB2 := Lib.hid hb2; obtain ⟨x20, x21, x22, x23⟩ := HJ.out.bx _ HB2.out; clear hb2)
   | (go_at_call 30; (with_reducible refine (VL.out _ HB2.out).mono ?_); rintro e w3 ⟨rfl, hb3⟩; have HB3 := Lib.hid (HB2.out.trans (hb3.mono HB2.out.size)); obtain ⟨x30, x31, x32, x33⟩ := HJ.out.bx _ HB3.out; clear hb3)
   | (go_at_call 31; (with_reducible refine (LO.out _).mono ?_); rintro e w3' ⟨rfl, rfl⟩))
 go_at_call 11
 ((with_reducible refine (HJ.out.hv _ HB3.out).mono ?_); rintro e w4 ⟨⟨hvy, rfl⟩, hb4⟩; have HB4 := Lib.hid (HB3.out.trans (hb4.mono HB3.out.size)); obtain ⟨x40, x41, x42, x43⟩ := HJ.out.bx _ HB4.out; clear hb4)
 cases hvy
 case true =>
   go_wp2_with fail
   go_ret
   exact ⟨rfl, HA.out _ HB4.out⟩
 case false =>
   go_wp2_with fail
   go_ret
   exact ⟨rfl, HA.out _ HB4.out⟩
set_option maxHeartbeats 8000000 in
theorem loose_blank (l : List QuadL) (gap bl : List UInt8) (ord : List Int) (a : Option Addr) (c : Nat) (oa : Option Addr) (oc : Nat) (w : World) (J : LIn l gap bl ord a c oa oc w.heap.size (w.alloc (.cells #[.slice a l.length c, .string (B gap), .string (B bl), .slice oa ord.length oc] 70))) (hf : Fine l) (hg : looseB gap false = true) (hl : l.length <= 1000) (ho : ord.length <= 1000) (hs : gap.length + bl.length <= 1000) (hb : ¬ ∀ x ∈ bl, blankC x = true) :
   Calls Tryz.prog 8 #[.agg #[.slice a l.length c, .string (B gap), .string (B bl), .slice oa ord.length oc]] w fun e w' => e = .returned (.bool true) /\ Below w.heap.size w w' := by
 have HJ := Lib.hid J
 have HA : Hid (∀ u, Below (w.alloc (.cells #[.slice a l.length c, .string (B gap), .string (B bl), .slice oa ord.length oc] 70)).heap.size (w.alloc (.cells #[.slice a l.length c, .string (B gap), .string (B bl), .slice oa ord.length oc] 70)) u -> Below w.heap.size w u) := Lib.hid (fun u h => ((Below.refl _ _).alloc (Nat.le_refl _) _).trans (h.mono (by simp)))
 have VL : Hid (∀ u, Below (w.alloc (.cells #[.slice a l.length c, .string (B gap), .string (B bl), .slice oa ord.length oc] 70)).heap.size (w.alloc (.cells #[.slice a l.length c, .string (B gap), .string (B bl), .slice oa ord.length oc] 70)) u -> Calls Tryz.prog 30 #[.slice a l.length c] u fun e w' => e = .returned (.tuple #[.int .i64 (validF l).1, .int .i64 0]) /\ Below u.heap.size u w') := Lib.hid ((validF_ok l).2 hf ▸ J.vl)
 have LO : Hid (∀ u, Calls Tryz.prog 31 #[.string (B gap)] u fun e w' => e = .returned (.bool true) /\ w' = u) := Lib.hid (hg ▸ J.lo)
 have t1 : decide ((1000 : Int) < (l.length : Int)) = false := decide_eq_false (by omega)
 have t1n : decide (1000 < l.length) = false := decide_eq_false (by omega)
 have t2 : decide ((1000 : Int) < (ord.length : Int)) = false := decide_eq_false (by omega)
 have t2n : decide (1000 < ord.length) = false := decide_eq_false (by omega)
 have t3 : decide ((1000 : Int) < (gap.length : Int) + (bl.length : Int)) = false := decide_eq_false (by omega)
 have t3n : decide (1000 < gap.length + bl.length) = false := decide_eq_false (by omega)
 have t3w : IntKind.i64.wrap ((gap.length : Int) + (bl.length : Int)) = (gap.length : Int) + (bl.length : Int) := IntWalk.i64_in _ (by omega)
 have HBL := Lib.hid hb
 clear J hf hg hb
 go_enter Tryz.func8, Tryz.ntmps8
 go_wp2_with (first
   | (go_at_call 29; (with_reducible refine HJ.out.aw.mono ?_); rintro e w2 ⟨rfl, hb2⟩; have HB2 := Lib.hid hb2; obtain ⟨x20, x21, x22, x23⟩ := HJ.out.bx _ HB2.out; clear hb2)
   | (go_at_call 30; (with_reducible refine (VL.out _ HB2.out).mono ?_); rintro e w3 ⟨rfl, hb3⟩; have HB3 := Lib.hid (HB2.out.trans (hb3.mono HB2.out.size)); obtain ⟨x30, x31, x32, x33⟩ := HJ.out.bx _ HB3.out; clear hb3)
   | (go_at_call 31; (with_reducible refine (LO.out _).mono ?_); rintro e w3' ⟨rfl, rfl⟩))
 go_at_call 11
 ((with_reducible refine (HJ.out.hv _ HB3.out).mono ?_); rintro e w4 ⟨⟨hvy, rfl⟩, hb4⟩; have HB4 := Lib.hid (HB3.out.trans (hb4.mono HB3.out.size)); obtain ⟨x40, x41, x42, x43⟩ := HJ.out.bx _ HB4.out; clear hb4)
 cases hvy
 case true =>
   go_wp2_with fail
   go_ret
   exact ⟨rfl, HA.out _ HB4.out⟩
 case false =>
   go_wp2_with fail
   go_loop [5] (fun i => ∃ k : Nat, i = .int .i64 k /\ k <= bl.length /\ Hid (∀ j (h : j < bl.length), j < k -> blankC bl[j] = true)) (fun i => bl.length - (intOf i).toNat)
   case atStart => exact ⟨0, rfl, Nat.zero_le _, Lib.hid (fun j h h0 => by omega)⟩
   case round =>
     obtain ⟨k, rfl, hk, HK⟩ := hrel
     by_cases hlt : k < bl.length
     · have c1 : decide ((k : Int) < (bl.length : Int)) = true := decide_eq_true (by omega)
       have m0 : 0 <= (k : Int) := by omega
       have m1 : (k : Int) < (bl.length : Int) := by omega
       by_cases h32 : bl[k] = 32
       · have e5 : ((bl[k].toNat : Int) != 32) = false := by rw [h32]; rfl
         have HK2 : Hid (∀ j (h : j < bl.length), j < k + 1 -> blankC bl[j] = true) := Lib.hid (fun j h h1 => by
           by_cases hj : j = k
           · subst hj; exact blank_iff.2 (.inl h32)
           · exact HK.out j h (by omega))
         clear h32
         go_wp2_with fail
         go_round
         case rel => exact ⟨k + 1, by go_num, by omega, HK2⟩
         case measure => simp [intOf]; omega
       have e5 : ((bl[k].toNat : Int) != 32) = true := bne_iff_ne.2 (bne_iff_ne.1 (byte_nei (d := 32) h32))
       by_cases h9 : bl[k] = 9
       · have e6 : ((bl[k].toNat : Int) != 9) = false := by rw [h9]; rfl
         have HK2 : Hid (∀ j (h : j < bl.length), j < k + 1 -> blankC bl[j] = true) := Lib.hid (fun j h h1 => by
           by_cases hj : j = k
           · subst hj; exact blank_iff.2 (.inr h9)
           · exact HK.out j h (by omega))
         clear h32 h9
         go_wp2_with fail
         go_round
         case rel => exact ⟨k + 1, by go_num, by omega, HK2⟩
         case measure => simp [intOf]; omega
       have e6 : ((bl[k].toNat : Int) != 9) = true := bne_iff_ne.2 (bne_iff_ne.1 (byte_nei (d := 9) h9))
       clear h32 h9
       go_wp2_with fail
       go_ret
       exact ⟨rfl, HA.out _ HB4.out⟩
     · exfalso
       exact HBL.out (fun x hx => by
         obtain ⟨j, hj, rfl⟩ := List.getElem_of_mem hx
         exact HK.out j hj (by omega))
end Go.Proofs.YtdegonmkikfghaaGreatDoor
