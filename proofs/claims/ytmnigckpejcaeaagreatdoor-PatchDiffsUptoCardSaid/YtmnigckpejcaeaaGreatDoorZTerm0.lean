/-
  Terms and quads as plain data; their order; sets of them. No program in sight. By an AI agent.
-/
import Std
import Derived.Lib.Bytealg
import Derived.Lib.Small
import Derived.Test.YtmnigckpejcaeaaGreatDoorZGPlain
namespace Go.Proofs.YtmnigckpejcaeaaGreatDoor
set_option maxRecDepth 100000
structure TermL where
 kind : Int
 text : List UInt8
 type : List UInt8
 lang : List UInt8
 deriving DecidableEq
structure QuadL where
 s : TermL
 p : TermL
 o : TermL
 g : TermL
 deriving DecidableEq
def ordI : Ordering -> Int
 | .lt => -1
 | .eq => 0
 | .gt => 1
def orI (a b : Int) : Int := if a = 0 then b else a
theorem orI_ord (o p : Ordering) : orI (ordI o) (ordI p) = ordI (o.then p) := by cases o <;> rfl
theorem compareInt_ord (x y : Int) : Lib.compareInt x y = ordI (compare x y) := by
 unfold Lib.compareInt
 rcases Int.lt_trichotomy x y with h | h | h
 · rw [if_pos h, (Int.compare_eq_lt).2 h]; rfl
 · subst h; rw [if_neg (Int.lt_irrefl _), if_neg (Int.lt_irrefl _), (Int.compare_eq_eq).2 rfl]; rfl
 · rw [if_neg (by omega), if_pos h, (Int.compare_eq_gt).2 h]; rfl
theorem compareBytes_ord : ∀ (a b : List UInt8), Lib.compareBytes a b = ordI (compare a b)
 | [], [] => rfl
 | [], _ :: _ => rfl
 | _ :: _, [] => rfl
 | x :: a, y :: b => by
   have ih := compareBytes_ord a b
   rw [Lib.compareBytes, List.compare_cons_cons, ih]
   rcases Nat.lt_trichotomy x.toNat y.toNat with h | h | h
   · have h1 : x < y := UInt8.lt_iff_toNat_lt.2 h
     rw [if_pos h1, show compare x y = .lt from by show compareOfLessAndEq x y = .lt; unfold compareOfLessAndEq; rw [if_pos h1]]
     rfl
   · obtain rfl : x = y := UInt8.toNat_inj.1 h
     rw [if_neg (by simp), if_neg (by simp), show compare x x = .eq from by simp]
     rfl
   · have h1 : y < x := UInt8.lt_iff_toNat_lt.2 h
     have h2 : ¬ x < y := fun e => by have := UInt8.lt_iff_toNat_lt.1 e; omega
     have h3 : x ≠ y := fun e => by rw [e] at h; omega
     rw [if_neg h2, if_pos h1, show compare x y = .gt from by show compareOfLessAndEq x y = .gt; unfold compareOfLessAndEq; rw [if_neg h2, if_neg h3]]
     rfl
def ordT : TermL -> TermL -> Ordering := compareLex (compareOn (·.kind)) (compareLex (compareOn (·.text)) (compareLex (compareOn (·.type)) (compareOn (·.lang))))
def ordQ : QuadL -> QuadL -> Ordering := compareLex (fun a b => ordT a.g b.g) (compareLex (fun a b => ordT a.s b.s) (compareLex (fun a b => ordT a.p b.p) (fun a b => ordT a.o b.o)))
def cmpT (a b : TermL) : Int := orI (Lib.compareInt a.kind b.kind) (orI (Lib.compareBytes a.text b.text) (orI (Lib.compareBytes a.type b.type) (Lib.compareBytes a.lang b.lang)))
def cmpQ (a b : QuadL) : Int := orI (cmpT a.g b.g) (orI (cmpT a.s b.s) (orI (cmpT a.p b.p) (cmpT a.o b.o)))
theorem cmpT_ord (a b : TermL) : cmpT a b = ordI (ordT a b) := by
 unfold cmpT ordT
 rw [compareInt_ord, compareBytes_ord, compareBytes_ord, compareBytes_ord, orI_ord, orI_ord, orI_ord]
 rfl
theorem cmpQ_ord (a b : QuadL) : cmpQ a b = ordI (ordQ a b) := by
 unfold cmpQ ordQ
 rw [cmpT_ord, cmpT_ord, cmpT_ord, cmpT_ord, orI_ord, orI_ord, orI_ord]
 rfl
instance : Std.TransCmp ordT := by unfold ordT; infer_instance
theorem ordT_eq {a b : TermL} (h : ordT a b = .eq) : a = b := by
 unfold ordT compareLex compareOn at h
 rw [Ordering.then_eq_eq, Ordering.then_eq_eq, Ordering.then_eq_eq] at h
 obtain ⟨h1, h2, h3, h4⟩ := h
 cases a; cases b
 simp only at h1 h2 h3 h4
 rw [Std.LawfulEqOrd.eq_of_compare h1, Std.LawfulEqOrd.eq_of_compare h2, Std.LawfulEqOrd.eq_of_compare h3, Std.LawfulEqOrd.eq_of_compare h4]
instance : Std.TransCmp (fun (a b : QuadL) => ordT a.g b.g) where
 eq_swap := Std.OrientedCmp.eq_swap (cmp := ordT)
 isLE_trans := Std.TransCmp.isLE_trans (cmp := ordT)
instance : Std.TransCmp (fun (a b : QuadL) => ordT a.s b.s) where
 eq_swap := Std.OrientedCmp.eq_swap (cmp := ordT)
 isLE_trans := Std.TransCmp.isLE_trans (cmp := ordT)
instance : Std.TransCmp (fun (a b : QuadL) => ordT a.p b.p) where
 eq_swap := Std.OrientedCmp.eq_swap (cmp := ordT)
 isLE_trans := Std.TransCmp.isLE_trans (cmp := ordT)
instance : Std.TransCmp (fun (a b : QuadL) => ordT a.o b.o) where
 eq_swap := Std.OrientedCmp.eq_swap (cmp := ordT)
 isLE_trans := Std.TransCmp.isLE_trans (cmp := ordT)
instance : Std.TransCmp ordQ := by unfold ordQ; infer_instance
theorem ordQ_eq {a b : QuadL} (h : ordQ a b = .eq) : a = b := by
 unfold ordQ compareLex at h
 rw [Ordering.then_eq_eq, Ordering.then_eq_eq, Ordering.then_eq_eq] at h
 obtain ⟨h1, h2, h3, h4⟩ := h
 cases a; cases b
 simp only at h1 h2 h3 h4
 rw [ordT_eq h1, ordT_eq h2, ordT_eq h3, ordT_eq h4]
theorem ordI_lt {o : Ordering} : ordI o < 0 ↔ o = .lt := by cases o <;> simp [ordI]
theorem ordI_eq {o : Ordering} : ordI o = 0 ↔ o = .eq := by cases o <;> simp [ordI]
theorem ordI_swap (o : Ordering) : ordI o.swap = - ordI o := by cases o <;> rfl
theorem cmpQ_swap (a b : QuadL) : cmpQ b a = - cmpQ a b := by rw [cmpQ_ord, cmpQ_ord, Std.OrientedCmp.eq_swap (cmp := ordQ), ordI_swap]
theorem cmpQ_zero {a b : QuadL} : cmpQ a b = 0 ↔ a = b := by
 rw [cmpQ_ord, ordI_eq]
 exact ⟨ordQ_eq, fun h => by rw [h]; exact Std.ReflCmp.compare_self⟩
theorem cmpQ_self (a : QuadL) : cmpQ a a = 0 := cmpQ_zero.2 rfl
theorem cmpQ_trans {a b c : QuadL} (h1 : cmpQ a b < 0) (h2 : cmpQ b c < 0) : cmpQ a c < 0 := by
 rw [cmpQ_ord, ordI_lt] at *
 exact Std.TransCmp.lt_trans h1 h2
theorem cmpQ_three (a b : QuadL) : cmpQ a b = -1 \/ cmpQ a b = 0 \/ cmpQ a b = 1 := by
 rw [cmpQ_ord]
 cases ordQ a b <;> simp [ordI]
def Rise (l : List QuadL) : Prop := l.Pairwise fun a b => cmpQ a b < 0
def riseB : List QuadL -> Bool
 | a :: b :: r => decide (cmpQ a b < 0) && riseB (b :: r)
 | _ => true
theorem riseB_iff : ∀ (l : List QuadL), riseB l = true ↔ Rise l
 | [] => by simp [riseB, Rise]
 | [a] => by simp [riseB, Rise]
 | a :: b :: r => by
   have ih := riseB_iff (b :: r)
   rw [riseB, Bool.and_eq_true, decide_eq_true_iff, ih]
   unfold Rise
   rw [List.pairwise_cons (a := a)]
   constructor
   · rintro ⟨h1, h2⟩
     refine ⟨fun x hx => ?_, h2⟩
     rcases List.mem_cons.1 hx with rfl | hx
     · exact h1
     · exact cmpQ_trans h1 ((List.pairwise_cons.1 h2).1 x hx)
   · rintro ⟨h1, h2⟩
     exact ⟨h1 b (List.mem_cons_self ..), h2⟩
theorem Rise.tail {a : QuadL} {l : List QuadL} (h : Rise (a :: l)) : Rise l := (List.pairwise_cons.1 h).2
theorem Rise.head {a : QuadL} {l : List QuadL} (h : Rise (a :: l)) : ∀ x ∈ l, cmpQ a x < 0 := (List.pairwise_cons.1 h).1
theorem Rise.notin {a : QuadL} {l : List QuadL} (h : Rise (a :: l)) : a ∉ l := fun hm => by have := h.head a hm; rw [cmpQ_self] at this; omega
theorem rise_ext : ∀ {a b : List QuadL}, Rise a -> Rise b -> (∀ x, x ∈ a ↔ x ∈ b) -> a = b
 | [], [], _, _, _ => rfl
 | [], y :: b, _, _, h => by have := (h y).2 (List.mem_cons_self ..); cases this
 | x :: a, [], _, _, h => by have := (h x).1 (List.mem_cons_self ..); cases this
 | x :: a, y :: b, ha, hb, h => by
   have hxy : x = y := by
     rcases List.mem_cons.1 ((h x).1 (List.mem_cons_self ..)) with e | hx
     · exact e
     · rcases List.mem_cons.1 ((h y).2 (List.mem_cons_self ..)) with e | hy
       · exact e.symm
       · have h1 := hb.head x hx
         have h2 := ha.head y hy
         rw [cmpQ_swap] at h1
         omega
   subst hxy
   rw [rise_ext ha.tail hb.tail fun z => ?_]
   constructor
   · intro hz
     rcases List.mem_cons.1 ((h z).1 (List.mem_cons_of_mem _ hz)) with e | hz'
     · rw [e] at hz; exact absurd hz ha.notin
     · exact hz'
   · intro hz
     rcases List.mem_cons.1 ((h z).2 (List.mem_cons_of_mem _ hz)) with e | hz'
     · rw [e] at hz; exact absurd hz hb.notin
     · exact hz'
def mergeF (f m s : Bool) : List QuadL -> List QuadL -> List QuadL
 | [], [] => []
 | a :: as, [] => (if f then [a] else []) ++ mergeF f m s as []
 | [], b :: bs => (if s then [b] else []) ++ mergeF f m s [] bs
 | a :: as, b :: bs =>
   if cmpQ a b < 0 then (if f then [a] else []) ++ mergeF f m s as (b :: bs)
   else if cmpQ a b = 0 then (if m then [a] else []) ++ mergeF f m s as bs
   else (if s then [b] else []) ++ mergeF f m s (a :: as) bs
termination_by a b => a.length + b.length
theorem mergeF_l {f m s : Bool} {a : QuadL} {as : List QuadL} : mergeF f m s (a :: as) [] = (if f then [a] else []) ++ mergeF f m s as [] := by rw [mergeF]
theorem mergeF_r {f m s : Bool} {b : QuadL} {bs : List QuadL} : mergeF f m s [] (b :: bs) = (if s then [b] else []) ++ mergeF f m s [] bs := by rw [mergeF]
theorem mergeF_lt {f m s : Bool} {a b : QuadL} {as bs : List QuadL} (h : cmpQ a b < 0) : mergeF f m s (a :: as) (b :: bs) = (if f then [a] else []) ++ mergeF f m s as (b :: bs) := by rw [mergeF, if_pos h]
theorem mergeF_eq {f m s : Bool} {a b : QuadL} {as bs : List QuadL} (h : cmpQ a b = 0) : mergeF f m s (a :: as) (b :: bs) = (if m then [a] else []) ++ mergeF f m s as bs := by rw [mergeF, if_neg (by omega), if_pos h]
theorem mergeF_gt {f m s : Bool} {a b : QuadL} {as bs : List QuadL} (h : 0 < cmpQ a b) : mergeF f m s (a :: as) (b :: bs) = (if s then [b] else []) ++ mergeF f m s (a :: as) bs := by rw [mergeF, if_neg (by omega), if_neg (by omega)]
theorem mem_if {c : Bool} {x y : QuadL} : x ∈ (if c then [y] else []) ↔ c = true /\ x = y := by cases c <;> simp
theorem mergeF_mem (f m s : Bool) : ∀ (n : Nat) (a b : List QuadL), a.length + b.length <= n -> Rise a -> Rise b -> ∀ x, x ∈ mergeF f m s a b ↔ (f = true /\ x ∈ a /\ x ∉ b) \/ (m = true /\ x ∈ a /\ x ∈ b) \/ (s = true /\ x ∉ a /\ x ∈ b)
 | n, [], [], _, _, _, x => by rw [mergeF]; simp
 | 0, _ :: _, _, h, _, _, _ => by simp at h
 | 0, _, _ :: _, h, _, _, _ => by simp at h
 | n + 1, a :: as, [], h, ha, hb, x => by
   rw [mergeF_l, List.mem_append, mergeF_mem f m s n as [] (by simp at h ⊢; omega) ha.tail hb x, mem_if]
   simp only [List.not_mem_nil, not_false_eq_true, and_true, and_false, or_false, List.mem_cons]
   constructor
   · rintro (⟨h1, h2⟩ | ⟨h1, h2⟩)
     · exact ⟨h1, .inl h2⟩
     · exact ⟨h1, .inr h2⟩
   · rintro ⟨h1, h2 | h2⟩
     · exact .inl ⟨h1, h2⟩
     · exact .inr ⟨h1, h2⟩
 | n + 1, [], b :: bs, h, ha, hb, x => by
   rw [mergeF_r, List.mem_append, mergeF_mem f m s n [] bs (by simp at h ⊢; omega) ha hb.tail x, mem_if]
   simp only [List.not_mem_nil, not_false_eq_true, false_and, and_false, false_or, true_and, List.mem_cons]
   constructor
   · rintro (⟨h1, h2⟩ | ⟨h1, h2⟩)
     · exact ⟨h1, .inl h2⟩
     · exact ⟨h1, .inr h2⟩
   · rintro ⟨h1, h2 | h2⟩
     · exact .inl ⟨h1, h2⟩
     · exact .inr ⟨h1, h2⟩
 | n + 1, a :: as, b :: bs, h, ha, hb, x => by
   have hl : as.length + bs.length + 1 <= n := by simp at h; omega
   rcases Int.lt_trichotomy (cmpQ a b) 0 with hc | hc | hc
   · rw [mergeF_lt hc, List.mem_append, mergeF_mem f m s n as (b :: bs) (by simp; omega) ha.tail hb x, mem_if]
     have hna : a ∉ b :: bs := fun e => by
       rcases List.mem_cons.1 e with e | e
       · rw [e, cmpQ_self] at hc; omega
       · have := hb.head a e; rw [cmpQ_swap] at this; omega
     by_cases hx : x = a
     · subst hx
       have := ha.notin
       simp [hna, this]
     · simp [hx]
   · obtain rfl := cmpQ_zero.1 hc
     rw [mergeF_eq hc, List.mem_append, mergeF_mem f m s n as bs (by omega) ha.tail hb.tail x, mem_if]
     have h1 := ha.notin
     have h2 := hb.notin
     by_cases hx : x = a
     · subst hx
       simp [h1, h2]
     · simp [hx]
   · rw [mergeF_gt hc, List.mem_append, mergeF_mem f m s n (a :: as) bs (by simp; omega) ha hb.tail x, mem_if]
     have hnb : b ∉ a :: as := fun e => by
       rcases List.mem_cons.1 e with e | e
       · rw [e, cmpQ_self] at hc; omega
       · have := ha.head b e; omega
     by_cases hx : x = b
     · subst hx
       have := hb.notin
       simp [hnb, this]
     · simp [hx]
theorem rise_if {c : Bool} {y : QuadL} {l : List QuadL} (hl : Rise l) (h : ∀ x ∈ l, cmpQ y x < 0) : Rise ((if c then [y] else []) ++ l) := by
 cases c
 · exact hl
 · exact List.pairwise_cons.2 ⟨h, hl⟩
theorem mergeF_rise (f m s : Bool) : ∀ (n : Nat) (a b : List QuadL), a.length + b.length <= n -> Rise a -> Rise b -> Rise (mergeF f m s a b)
 | n, [], [], _, _, _ => by rw [mergeF]; exact List.Pairwise.nil
 | 0, _ :: _, _, h, _, _ => by simp at h
 | 0, _, _ :: _, h, _, _ => by simp at h
 | n + 1, a :: as, [], h, ha, hb => by
   rw [mergeF_l]
   refine rise_if (mergeF_rise f m s n as [] (by simp at h ⊢; omega) ha.tail hb) fun x hx => ?_
   rw [mergeF_mem f m s _ as [] (Nat.le_refl _) ha.tail hb] at hx
   exact ha.head x (by rcases hx with h | h | h; exact h.2.1; exact h.2.1; exact absurd h.2.2 (by simp))
 | n + 1, [], b :: bs, h, ha, hb => by
   rw [mergeF_r]
   refine rise_if (mergeF_rise f m s n [] bs (by simp at h ⊢; omega) ha hb.tail) fun x hx => ?_
   rw [mergeF_mem f m s _ [] bs (Nat.le_refl _) ha hb.tail] at hx
   exact hb.head x (by rcases hx with h | h | h; exact absurd h.2.1 (by simp); exact absurd h.2.1 (by simp); exact h.2.2)
 | n + 1, a :: as, b :: bs, h, ha, hb => by
   have hl : as.length + bs.length + 1 <= n := by simp at h; omega
   rcases Int.lt_trichotomy (cmpQ a b) 0 with hc | hc | hc
   · rw [mergeF_lt hc]
     refine rise_if (mergeF_rise f m s n as (b :: bs) (by simp; omega) ha.tail hb) fun x hx => ?_
     rw [mergeF_mem f m s _ as (b :: bs) (Nat.le_refl _) ha.tail hb] at hx
     have hx' : x ∈ as \/ x ∈ b :: bs := by rcases hx with h | h | h; exact .inl h.2.1; exact .inl h.2.1; exact .inr h.2.2
     rcases hx' with hx | hx
     · exact ha.head x hx
     · rcases List.mem_cons.1 hx with rfl | hx
       · exact hc
       · exact cmpQ_trans hc (hb.head x hx)
   · obtain rfl := cmpQ_zero.1 hc
     rw [mergeF_eq hc]
     refine rise_if (mergeF_rise f m s n as bs (by omega) ha.tail hb.tail) fun x hx => ?_
     rw [mergeF_mem f m s _ as bs (Nat.le_refl _) ha.tail hb.tail] at hx
     rcases hx with h | h | h
     · exact ha.head x h.2.1
     · exact ha.head x h.2.1
     · exact hb.head x h.2.2
   · rw [mergeF_gt hc]
     have hc' : cmpQ b a < 0 := by rw [cmpQ_swap]; omega
     refine rise_if (mergeF_rise f m s n (a :: as) bs (by simp; omega) ha hb.tail) fun x hx => ?_
     rw [mergeF_mem f m s _ (a :: as) bs (Nat.le_refl _) ha hb.tail] at hx
     have hx' : x ∈ a :: as \/ x ∈ bs := by rcases hx with h | h | h; exact .inl h.2.1; exact .inl h.2.1; exact .inr h.2.2
     rcases hx' with hx | hx
     · rcases List.mem_cons.1 hx with rfl | hx
       · exact hc'
       · exact cmpQ_trans hc' (ha.head x hx)
     · exact hb.head x hx
theorem mergeF_len (f m s : Bool) : ∀ (n : Nat) (a b : List QuadL), a.length + b.length <= n -> (mergeF f m s a b).length <= a.length + b.length
 | n, [], [], _ => by rw [mergeF]; simp
 | 0, _ :: _, _, h => by simp at h
 | 0, _, _ :: _, h => by simp at h
 | n + 1, a :: as, [], h => by
   have := mergeF_len f m s n as [] (by simp at h ⊢; omega)
   rw [mergeF_l]; cases f <;> simp at this ⊢ <;> omega
 | n + 1, [], b :: bs, h => by
   have := mergeF_len f m s n [] bs (by simp at h ⊢; omega)
   rw [mergeF_r]; cases s <;> simp at this ⊢ <;> omega
 | n + 1, a :: as, b :: bs, h => by
   have hl : as.length + bs.length + 1 <= n := by simp at h; omega
   rcases Int.lt_trichotomy (cmpQ a b) 0 with hc | hc | hc
   · have := mergeF_len f m s n as (b :: bs) (by simp; omega)
     rw [mergeF_lt hc]; cases f <;> simp at this ⊢ <;> omega
   · have := mergeF_len f m s n as bs (by omega)
     rw [mergeF_eq hc]; cases m <;> simp at this ⊢ <;> omega
   · have := mergeF_len f m s n (a :: as) bs (by simp; omega)
     rw [mergeF_gt hc]; cases s <;> simp at this ⊢ <;> omega
def bothR (i : Bool) : List QuadL -> List QuadL -> List QuadL
 | [], _ => []
 | a :: as, b => (if ((b.dropWhile fun y => decide (cmpQ y a < 0)).head? == some a) == i then [a] else []) ++ bothR i as (b.dropWhile fun y => decide (cmpQ y a < 0))
theorem drop_spec {a : QuadL} : ∀ {b : List QuadL}, Rise b -> Rise (b.dropWhile fun y => decide (cmpQ y a < 0)) /\ (((b.dropWhile fun y => decide (cmpQ y a < 0)).head? = some a) ↔ a ∈ b) /\ ∀ x, cmpQ a x < 0 -> (x ∈ (b.dropWhile fun y => decide (cmpQ y a < 0)) ↔ x ∈ b)
 | [], _ => by simp [Rise]
 | y :: b, h => by
   by_cases hy : cmpQ y a < 0
   · rw [List.dropWhile_cons_of_pos (by simpa using hy)]
     obtain ⟨h1, h2, h3⟩ := drop_spec h.tail
     refine ⟨h1, ?_, fun x hx => ?_⟩
     · rw [h2, List.mem_cons]
       refine ⟨.inr, fun hh => hh.resolve_left fun e => ?_⟩
       rw [e, cmpQ_self] at hy; omega
     · rw [h3 x hx, List.mem_cons]
       refine ⟨.inr, fun hh => hh.resolve_left fun e => ?_⟩
       rw [e] at hx; rw [cmpQ_swap] at hx; omega
   · rw [List.dropWhile_cons_of_neg (by simpa using hy)]
     refine ⟨h, ?_, fun x _ => Iff.rfl⟩
     simp only [List.head?_cons, Option.some.injEq, List.mem_cons]
     refine ⟨fun e => .inl e.symm, fun hh => hh.elim Eq.symm fun e => ?_⟩
     have := h.head a e
     omega
theorem bothR_filter (i : Bool) : ∀ {a b : List QuadL}, Rise a -> Rise b -> bothR i a b = a.filter fun x => decide (x ∈ b) == i
 | [], _, _, _ => rfl
 | a :: as, b, ha, hb => by
   obtain ⟨h1, h2, h3⟩ := drop_spec (a := a) hb
   have e1 : ((b.dropWhile fun y => decide (cmpQ y a < 0)).head? == some a) = decide (a ∈ b) := by
     rw [Bool.eq_iff_iff, beq_iff_eq, decide_eq_true_iff, h2]
   rw [bothR, bothR_filter i ha.tail h1, e1, List.filter_cons]
   have e2 : as.filter (fun x => decide (x ∈ b.dropWhile fun y => decide (cmpQ y a < 0)) == i) = as.filter fun x => decide (x ∈ b) == i := by
     refine List.filter_congr fun x hx => ?_
     rw [show decide (x ∈ b.dropWhile fun y => decide (cmpQ y a < 0)) = decide (x ∈ b) from by rw [Bool.eq_iff_iff, decide_eq_true_iff, decide_eq_true_iff, h3 x (ha.head x hx)]]
   rw [e2]
   cases (decide (a ∈ b) == i) <;> rfl
theorem bothR_spec (i : Bool) {a b : List QuadL} (ha : Rise a) (hb : Rise b) : Rise (bothR i a b) /\ ∀ x, x ∈ bothR i a b ↔ x ∈ a /\ decide (x ∈ b) = i := by
 rw [bothR_filter i ha hb]
 exact ⟨List.Pairwise.filter _ ha, fun x => by rw [List.mem_filter, beq_iff_eq]⟩
theorem minus_merge {a b : List QuadL} (ha : Rise a) (hb : Rise b) : bothR false a b = mergeF true false false a b := by
 obtain ⟨h1, h2⟩ := bothR_spec false ha hb
 refine rise_ext h1 (mergeF_rise _ _ _ _ a b (Nat.le_refl _) ha hb) fun x => ?_
 rw [h2, mergeF_mem _ _ _ _ a b (Nat.le_refl _) ha hb]
 by_cases ha : x ∈ a <;> by_cases hb : x ∈ b <;> simp [ha, hb]
end Go.Proofs.YtmnigckpejcaeaaGreatDoor
namespace Go.Proofs.YtmnigckpejcaeaaGreatDoor
open Go.RowKit
set_option maxRecDepth 100000
def utfF (l : List UInt8) (j : Nat) : Int := if _h : l.length <= j then -1 else if _h2 : (nextAt l j).2 = 0 then (j : Int) else utfF l (j + (nextAt l j).2)
termination_by l.length - j
decreasing_by omega
theorem utfF_end {l : List UInt8} {j : Nat} (h : l.length <= j) : utfF l j = -1 := by rw [utfF, dif_pos h]
theorem utfF_bad {l : List UInt8} {j : Nat} {v : Int} (h : j < l.length) (hq : nextAt l (j : Int) = (v, 0)) : utfF l j = j := by rw [utfF, dif_neg (by omega), hq, dif_pos rfl]
theorem utfF_go {l : List UInt8} {j n : Nat} {v : Int} (h : j < l.length) (hq : nextAt l (j : Int) = (v, n)) (hn : n ≠ 0) : utfF l j = utfF l (j + n) := by
 rw [utfF, dif_neg (by omega), hq, dif_neg hn]
theorem utfF_ge (l : List UInt8) : ∀ (k j : Nat), l.length - j <= k -> -1 <= utfF l j /\ utfF l j < l.length \/ l.length = 0 /\ utfF l j = -1
 | k, j, hk => by
   by_cases h : l.length <= j
   · rw [utfF_end h]
     by_cases h0 : l.length = 0
     · exact .inr ⟨h0, rfl⟩
     · exact .inl ⟨by omega, by omega⟩
   obtain ⟨v, n, hq⟩ : ∃ v n, nextAt l (j : Int) = (v, n) := ⟨_, _, rfl⟩
   by_cases hn : n = 0
   · subst hn
     rw [utfF_bad (by omega) hq]
     exact .inl ⟨by omega, by omega⟩
   · rw [utfF_go (by omega) hq hn]
     match k, hk with
     | 0, hk => omega
     | k + 1, hk => exact utfF_ge l k (j + n) (by omega)
def barC (c : UInt8) : Bool := decide (c.toNat <= 32) || [60, 62, 34, 123, 125, 124, 94, 92, 96].contains c
def refN (l : List UInt8) : Int := if 65536 < l.length then 2 else if 0 <= utfF l 0 then 40 else if l.any barC = true then 50 else 0
def schemeN : List UInt8 -> Nat -> Nat
 | [], _ => 0
 | c :: r, i => if c = 58 then i else if alphaC c = true \/ (i ≠ 0 /\ (digC c = true \/ c = 43 \/ c = 45 \/ c = 46)) then schemeN r (i + 1) else 0
def iriN (l : List UInt8) : Int := if refN l ≠ 0 then refN l else if schemeN l 0 = 0 then 51 else 0
def tagged : List UInt8 := [104, 116, 116, 112, 58, 47, 47, 119, 119, 119, 46, 119, 51, 46, 111, 114, 103, 47, 49, 57, 57, 57, 47, 48, 50, 47, 50, 50, 45, 114, 100, 102, 45, 115, 121, 110, 116, 97, 120, 45, 110, 115, 35, 108, 97, 110, 103, 83, 116, 114, 105, 110, 103]
def langN (l : List UInt8) : Int := if l = [] then 0 else if 65536 < l.length then 2 else if (tagF l).isNone = true then 61 else if lowL l = l then 0 else 61
def litN (t : TermL) : Int :=
 if 65536 < t.text.length then 2 else if 0 <= utfF t.text 0 then 40 else if iriN t.type ≠ 0 then iriN t.type else if langN t.lang ≠ 0 then langN t.lang
 else if (t.lang = []) = (t.type = tagged) then 71 else 0
def termN (t : TermL) : Int :=
 if t.kind = 1 \/ t.kind = 2 then (if ¬ (t.type = [] /\ t.lang = []) then 70 else if t.kind = 1 then iriN t.text else if 65536 < t.text.length then 2 else if wholeR labelB t.text then 0 else 60)
 else if t.kind = 3 then litN t else 70
def noTerm : TermL := ⟨0, [], [], []⟩
def quadN (q : QuadL) : Int :=
 if ¬ (q.s.kind = 1 \/ q.s.kind = 2) then 70 else if termN q.s ≠ 0 then termN q.s
 else if q.p.kind ≠ 1 then 70 else if termN q.p ≠ 0 then termN q.p
 else if ¬ (q.o.kind = 1 \/ q.o.kind = 2 \/ q.o.kind = 3) then 70 else if termN q.o ≠ 0 then termN q.o
 else if q.g = noTerm then 0 else if ¬ (q.g.kind = 1 \/ q.g.kind = 2) then 70 else termN q.g
def badF : List QuadL -> Nat -> Nat × Int
 | [], _ => (0, 0)
 | q :: r, i => if quadN q ≠ 0 then (i, quadN q) else badF r (i + 1)
def fallF : List QuadL -> Nat -> Nat × Int
 | a :: b :: r, i => if 0 <= cmpQ a b then (i, 6) else fallF (b :: r) (i + 1)
 | _, _ => (0, 0)
def validF (l : List QuadL) : Nat × Int := if 1048576 < l.length then (0, 2) else if (badF l 0).2 ≠ 0 then badF l 0 else fallF l 1
theorem badF_ok : ∀ (l : List QuadL) (i : Nat), (badF l i).2 = 0 ↔ ∀ q ∈ l, quadN q = 0
 | [], i => by simp [badF]
 | q :: r, i => by
   rw [badF]
   by_cases h : quadN q = 0
   · rw [if_neg (fun x => x h), badF_ok r]
     simp [h]
   · rw [if_pos h]
     simp [h]
theorem fallF_ok : ∀ (l : List QuadL) (i : Nat), (fallF l i).2 = 0 ↔ riseB l = true
 | [], i => by simp [fallF, riseB]
 | [a], i => by simp [fallF, riseB]
 | a :: b :: r, i => by
   rw [fallF, riseB]
   by_cases h : 0 <= cmpQ a b
   · rw [if_pos h, decide_eq_false (by omega)]
     simp
   · rw [if_neg h, decide_eq_true (by omega), Bool.true_and]
     exact fallF_ok (b :: r) _
def Fine (l : List QuadL) : Prop := l.length <= 1048576 /\ (∀ q ∈ l, quadN q = 0) /\ Rise l
theorem validF_ok (l : List QuadL) : (validF l).2 = 0 ↔ Fine l := by
 unfold validF Fine
 by_cases h : 1048576 < l.length
 · rw [if_pos h]
   exact ⟨(fun h => by cases h), (fun h => by omega)⟩
 rw [if_neg h, <- badF_ok l 0, <- riseB_iff]
 by_cases h2 : (badF l 0).2 = 0
 · rw [if_neg (fun x => x h2), fallF_ok]
   exact ⟨fun x => ⟨by omega, h2, x⟩, fun x => x.2.2⟩
 · rw [if_pos h2]
   exact ⟨fun x => absurd x h2, fun x => absurd x.2.1 h2⟩
theorem badF_step {l : List QuadL} {k : Nat} (h : k < l.length) : badF (l.drop k) k = if quadN l[k] ≠ 0 then (k, quadN l[k]) else badF (l.drop (k + 1)) (k + 1) := by
 rw [List.drop_eq_getElem_cons h, badF]
theorem fallF_step {l : List QuadL} {k : Nat} (h0 : 0 < k) (h : k < l.length) : fallF (l.drop (k - 1)) k = if 0 <= cmpQ (l[k - 1]'(by omega)) l[k] then (k, 6) else fallF (l.drop k) (k + 1) := by
 have e : l.drop (k - 1) = l[k - 1]'(by omega) :: l[k] :: l.drop (k + 1) := by
   rw [List.drop_eq_getElem_cons (by omega)]
   congr 1
   rw [show k - 1 + 1 = k by omega, List.drop_eq_getElem_cons h]
 rw [e, fallF, List.drop_eq_getElem_cons h]
theorem fallF_end {l : List QuadL} {k : Nat} (h : l.length <= k) : fallF (l.drop (k - 1)) k = (0, 0) := by
 have : (l.drop (k - 1)).length <= 1 := by simp; omega
 match hd : l.drop (k - 1), this with
 | [], _ => rfl
 | [_], _ => rfl
 | _ :: _ :: _, h => simp at h
end Go.Proofs.YtmnigckpejcaeaaGreatDoor
