/-
  Regions that draw their order, in the engine: what reads stable memory is taken first; the rest comes up in whatever order. Behind an operation that waits for all others nothing is asked of the memory (so it may store into what was read).
-/
import Derived.Test.YtclgplbikjmopaaGreatDoorStep
import Derived.OrdersHeld
import Derived.Deep.RegionHeld3
namespace Go.Proofs.YtclgplbikjmopaaGreatDoor
open Go.RowKit

section
variable {P : Program} {ops : Array Oper} {Q : Exit → Act → World → Prop} {S : World → Prop} {last : Nat}

/-- Number j waits for number i, or for one of the others. -/
def waitsOn (ops : Array Oper) (i j : Nat) (l : List Nat) : Bool := match ops[j]? with
  | none => false
  | some o => o.after.any fun e => Region.binds .any e && (e.on == i || l.contains e.on)
/-- Which of the first j operations wait for number i, be it through others. -/
def waitSet (ops : Array Oper) (i : Nat) : Nat → List Nat
  | 0 => []
  | j + 1 => if waitsOn ops i j (waitSet ops i j) = true then j :: waitSet ops i j else waitSet ops i j
/-- What comes from number 'last' on waits for number i. -/
def waitsI (ops : Array Oper) (last i : Nat) : Bool :=
  (List.range ops.size).all fun j => !Nat.ble last j || (waitSet ops i ops.size).contains j
/-- What is listed waits for nothing. -/
def closedL (ops : Array Oper) (listed : Array Bool) : Bool :=
  (List.range ops.size).all fun j => !listed.getD j false || match ops[j]? with
    | none => true
    | some o => o.after.all fun e => !Region.binds .any e || listed.getD e.on false
def Closed (ops : Array Oper) (listed : Array Bool) : Prop := ∀ (k : Nat) (o : Oper), ops[k]? = some o → listed.getD k false = true → ∀ e ∈ o.after, Region.binds .any e = true → listed.getD e.on false = true
theorem closed_of {ops : Array Oper} {listed : Array Bool} (h : closedL ops listed = true) : Closed ops listed := by
  intro k o ho hk e he hb
  unfold closedL at h
  have h1 := List.all_eq_true.1 h k (List.mem_range.2 (Array.getElem?_eq_some_iff.1 ho).1)
  rw [hk, ho, Bool.not_true, Bool.false_or] at h1
  obtain ⟨ix, hix, rfl⟩ := Array.mem_iff_getElem.1 he
  have h2 := Array.all_eq_true.1 h1 ix hix
  rw [hb, Bool.not_true, Bool.false_or] at h2
  exact h2
theorem closed_set {ops : Array Oper} {listed : Array Bool} {j : Nat} (h : Closed ops listed) (hj : j ∈ Region.ready .any ops listed) : Closed ops (listed.setIfInBounds j true) := by
  intro k o ho hk e he hb
  refine getD_set_true ?_
  by_cases hjk : j = k
  · subst hjk
    obtain ⟨_, o', ho', hall⟩ := mem_ready.1 hj
    rw [ho] at ho'
    obtain rfl := Option.some.inj ho'
    exact hall e he hb
  · rw [getD_set_ne false hjk] at hk
    exact h k o ho hk e he hb
theorem mem_waitSet {ops : Array Oper} {i : Nat} : ∀ (j k : Nat), k ∈ waitSet ops i j → ∃ o, ops[k]? = some o ∧ ∃ e ∈ o.after, Region.binds .any e = true ∧ (e.on = i ∨ ∃ m, m < j ∧ e.on ∈ waitSet ops i m)
  | 0, k, h => by cases h
  | j + 1, k, h => by
    unfold waitSet at h
    split at h
    · rename_i hc
      rcases List.mem_cons.1 h with rfl | h
      · unfold waitsOn at hc
        split at hc
        · cases hc
        · rename_i o ho
          obtain ⟨ix, hix, hb⟩ := Array.any_eq_true.1 hc
          rw [Bool.and_eq_true, Bool.or_eq_true, beq_iff_eq] at hb
          refine ⟨o, ho, _, Array.getElem_mem hix, hb.1, ?_⟩
          rcases hb.2 with h | h
          · exact .inl h
          · exact .inr ⟨k, by omega, by simpa using h⟩
      · obtain ⟨o, ho, e, he, hb, hm⟩ := mem_waitSet j k h
        refine ⟨o, ho, e, he, hb, ?_⟩
        rcases hm with h | ⟨m, hm, h⟩
        · exact .inl h
        · exact .inr ⟨m, by omega, h⟩
    · obtain ⟨o, ho, e, he, hb, hm⟩ := mem_waitSet j k h
      refine ⟨o, ho, e, he, hb, ?_⟩
      rcases hm with h | ⟨m, hm, h⟩
      · exact .inl h
      · exact .inr ⟨m, by omega, h⟩
theorem waitSet_unlisted {ops : Array Oper} {i : Nat} {listed : Array Bool} (hc : Closed ops listed) (hi : listed.getD i false = false) (j : Nat) : ∀ k ∈ waitSet ops i j, listed.getD k false = false := by
  induction j using Nat.strongRecOn with
  | ind j ih =>
    intro k hk
    obtain ⟨o, ho, e, he, hb, hm⟩ := mem_waitSet j k hk
    cases hl : listed.getD k false with
    | false => rfl
    | true =>
      have h1 := hc k o ho hl e he hb
      rcases hm with h | ⟨m, hm, h⟩
      · rw [h, hi] at h1; cases h1
      · rw [ih m hm _ h] at h1; cases h1
/-- (Nothing is asked of a region as a whole.) -/
def waitsAll (_ops : Array Oper) (_last : Nat) : Bool := true

/-- Whatever order is picked from here on, and S holds behind every operation before 'last'. -/
def AnyT (P : Program) (ops : Array Oper) (Q : Exit → Act → World → Prop) (S : World → Prop) (last : Nat) : Nat → Array Bool → Act → World → Prop
  | 0, listed, a, w => Region.ready .any ops listed = [] ∧ Q .normal a w
  | fuel + 1, listed, a, w =>
    (Region.ready .any ops listed = [] → Q .normal a w) ∧
    ∀ i ∈ Region.ready .any ops listed, wpOp P ops Q i (fun a' w' => (last ≤ i ∨ S w') ∧ AnyT P ops Q S last fuel (listed.setIfInBounds i true) a' w') a w

theorem any_of_T : ∀ (fuel : Nat) (listed : Array Bool) (a : Act) (w : World), AnyT P ops Q S last fuel listed a w → wpAny P .any ops Q fuel listed a w
  | 0, _, _, _, h => h
  | fuel + 1, _, _, _, h => ⟨h.1, fun i hi => wpOp_mono (fun a' w' h' => any_of_T fuel _ a' w' h'.2) (h.2 i hi)⟩

theorem not_last {j i : Nat} {listed : Array Bool} (hl : waitsI ops last i = true) (hc : Closed ops listed) (hj : j ∈ Region.ready .any ops listed) (hi : i ∈ Region.ready .any ops listed) : ¬ last ≤ j := by
  intro hlj
  obtain ⟨_, oj, hoj, hall⟩ := mem_ready.1 hj
  have hun := (mem_ready.1 hi).1
  have hltj : j < ops.size := (Array.getElem?_eq_some_iff.1 hoj).1
  have hi0 : listed.getD i false = false := by
    rcases Nat.lt_or_ge i listed.size with h' | h'
    · simp [h'] at hun ⊢; exact hun
    · simp [Array.getElem?_eq_none h'] at hun
  unfold waitsI at hl
  have h1 := List.all_eq_true.1 hl j (List.mem_range.2 hltj)
  have hb2 : Nat.ble last j = true := Nat.ble_eq_true_of_le hlj
  rw [hb2, Bool.not_true, Bool.false_or] at h1
  obtain ⟨o, ho, e, he, hb, hm⟩ := mem_waitSet ops.size j (by simpa using h1)
  rw [hoj] at ho
  obtain rfl := Option.some.inj ho
  have h2 := hall e he hb
  rcases hm with h | ⟨m, _, h⟩
  · rw [h, hi0] at h2; cases h2
  · rw [waitSet_unlisted hc hi0 m _ h] at h2; cases h2

theorem T_first {i : Nat} {oi : Oper} {v : Value} (hl : waitsI ops last i = true) (hi : ops[i]? = some oi) (hsel : ∀ (j : Nat) (o : Oper) cs b, ops[j]? = some o → o.op ≠ .select cs b)
    (hQ : ∀ c a w, Q (.panic c) (a.put oi.dst v) w → Q (.panic c) a w) :
    ∀ (fuel : Nat) (listed : Array Bool) (a : Act) (w : World), Closed ops listed →
      (∀ j oj, ops[j]? = some oj → j ≠ i → listed.getD j true = false → (∀ e ∈ oj.after, Region.binds .any e = true → e.on ≠ i) → oi.apart ops oj = true) →
      i ∈ Region.ready .any ops listed → YieldsIf P ops S oi v a → S w →
      AnyT P ops Q S last fuel (listed.setIfInBounds i true) (a.put oi.dst v) w → AnyT P ops Q S last (fuel + 1) listed a w := by
  intro fuel
  induction fuel with
  | zero =>
    intro listed a w _ _ hr hy hS H
    refine ⟨fun h => (by rw [h] at hr; cases hr), fun j hj => ?_⟩
    by_cases hji : j = i
    · subst hji; exact hy.wpOp hi hS ⟨.inr hS, H⟩
    · have := ready_mono hj hji
      rw [H.1] at this
      cases this
  | succ fuel ih =>
    intro listed a w hcl hfree hr hy hS H
    refine ⟨fun h => (by rw [h] at hr; cases hr), fun j hj => ?_⟩
    by_cases hji : j = i
    · subst hji; exact hy.wpOp hi hS ⟨.inr hS, H⟩
    · have h1 := H.2 j (ready_mono hj hji)
      obtain ⟨hjun, oj, hoj, hall⟩ := mem_ready.1 hj
      have hnot : ∀ e ∈ oj.after, Region.binds .any e = true → e.on ≠ i := fun e he hb heq => by
        have h1 := hall e he hb
        have h0 := (mem_ready.1 hr).1
        rw [heq] at h1
        rcases Nat.lt_or_ge i listed.size with h' | h'
        · simp [h'] at h0 h1; rw [h0] at h1; cases h1
        · simp [Array.getElem?_eq_none h'] at h1
      have h2 := wpOp_putIf hoj (hfree j oj hoj hji hjun hnot) (fun cs b => hsel i oi cs b hi) (fun cs b => hsel j oj cs b hoj) hQ hy h1
      have hfree' : ∀ k ok, ops[k]? = some ok → k ≠ i → (listed.setIfInBounds j true).getD k true = false →
          (∀ e ∈ ok.after, Region.binds .any e = true → e.on ≠ i) → oi.apart ops ok = true := fun k ok hk hki hun hno => by
        refine hfree k ok hk hki ?_ hno
        by_cases hjk : j = k
        · subst hjk; exact hjun
        · rw [getD_set_ne true hjk] at hun; exact hun
      have hnl : ¬ last ≤ j := not_last hl hcl hj hr
      refine wpOp_mono (fun a' w' h3 => ?_) h2
      have hS' : S w' := h3.2.1.resolve_left hnl
      refine ⟨.inr hS', ih (listed.setIfInBounds j true) a' w' (closed_set hcl hj) hfree' (ready_mono hr (Ne.symm hji)) h3.1 hS' ?_⟩
      rw [Array.setIfInBounds_comm _ _ hji]
      exact h3.2.2

end

/-! ## in the engine's words -/
/-- The blocks that are held. -/
def Held (Lh : List Ent) (w : World) : Prop := ∀ e ∈ Lh, w.heap[e.b]? = some e.o

section
variable {P : Program} {w0 w : World} {N : Nat} {a : Act} {E : List (Nat × Value)} {L Lh : List Ent} {Q : Exit → Act → World → Prop}
variable {ops : Array Oper} {fuel last : Nat} {listed : Array Bool}

theorem St.held (st : St w0 N a w E L) (hs : List.Sublist Lh L) : Held Lh w := fun e he => (st.facts e (hs.mem he)).1

/-- In every memory that holds Lh the operation gives v, and does nothing else. -/
def Vl (P : Program) (a : Act) (Lh : List Ent) (op : Op) (v : Value) : Prop := ∀ d ty pos aft g w', Held Lh w' → (execOp a.eval ⟨some d, op, ty, pos, aft, g⟩).run P w' = .ok (.value v) w'

theorem h_val {i d : Nat} {op : Op} {ty : TypeId} {pos : String} {aft : Array Edge} {v : Value} (st : St w0 N a w E L) (hs : List.Sublist Lh L) (_hl : waitsAll ops last = true) (hns : Region.noSelect ops = true)
    (hi : ops[i]? = some ⟨some d, op, ty, pos, aft, none⟩) (hf : (Region.free .any ops listed i && (Region.ready .any ops listed).contains i && waitsI ops last i && closedL ops listed) = true) (hd : Nat.blt d N = true) (hv : Vl P a Lh op v)
    (h : ∀ a', St w0 N a' w ((d, v) :: E) L → AnyT P ops (NoPanic Q) (Held Lh) last fuel (listed.setIfInBounds i true) a' w) : AnyT P ops (NoPanic Q) (Held Lh) last (fuel + 1) listed a w := by
  simp only [Bool.and_eq_true] at hf
  refine T_first hf.1.2 hi (Region.noSelect_spec hns) (fun _ _ _ h => h) fuel listed a w (closed_of hf.2) (Region.free_spec hi hf.1.1.1) (by simpa using hf.1.1.2) (.inl ⟨by simp [Region.wanted], ?_⟩) (st.held hs) (h _ (st.put d hd v))
  intro w' hw'
  exact hv d ty pos aft none w' hw'

theorem h_done (hr : (Region.ready .any ops listed).isEmpty = true) (h : Q .normal a w) : AnyT P ops (NoPanic Q) (Held Lh) last fuel listed a w := by
  have hr' : Region.ready .any ops listed = [] := by simpa using hr
  cases fuel with
  | zero => exact ⟨hr', h⟩
  | succ n => exact ⟨fun _ => h, by rw [hr']; simp⟩

theorem h_op {i : Nat} {dd : Option Tmp} {op : Op} {ty : TypeId} {pos : String} {aft : Array Edge} {K : Act → World → Prop} (hi : ops[i]? = some ⟨dd, op, ty, pos, aft, none⟩) (h : Oper.wp P ⟨dd, op, ty, pos, aft, none⟩ a w K Q) : wpOp P ops Q i K a w := by
  unfold wpOp
  simp only [hi]
  rw [if_pos (by simp [Region.wanted])]
  exact .inl h

/-- Just one operation may come up. -/
theorem h_one {i : Nat} {dd : Option Tmp} {op : Op} {ty : TypeId} {pos : String} {aft : Array Edge} (hr : decide (Region.ready .any ops listed = [i]) = true) (hi : ops[i]? = some ⟨dd, op, ty, pos, aft, none⟩)
    (h : Oper.wp P ⟨dd, op, ty, pos, aft, none⟩ a w (fun a' w' => (last ≤ i ∨ Held Lh w') ∧ AnyT P ops (NoPanic Q) (Held Lh) last fuel (listed.setIfInBounds i true) a' w') (NoPanic Q)) : AnyT P ops (NoPanic Q) (Held Lh) last (fuel + 1) listed a w := by
  have hr' := of_decide_eq_true hr
  refine ⟨fun h0 => (by rw [hr'] at h0; cases h0), ?_⟩
  rw [hr']
  intro j hj
  simp at hj
  subst hj
  exact h_op hi h
/-- One of two. -/
theorem h_two {i i' : Nat} {dd dd' : Option Tmp} {op op' : Op} {ty ty' : TypeId} {pos pos' : String} {aft aft' : Array Edge} (hr : decide (Region.ready .any ops listed = [i, i']) = true) (hi : ops[i]? = some ⟨dd, op, ty, pos, aft, none⟩) (hi' : ops[i']? = some ⟨dd', op', ty', pos', aft', none⟩)
    (h : Oper.wp P ⟨dd, op, ty, pos, aft, none⟩ a w (fun a' w' => (last ≤ i ∨ Held Lh w') ∧ AnyT P ops (NoPanic Q) (Held Lh) last fuel (listed.setIfInBounds i true) a' w') (NoPanic Q))
    (h' : Oper.wp P ⟨dd', op', ty', pos', aft', none⟩ a w (fun a' w' => (last ≤ i' ∨ Held Lh w') ∧ AnyT P ops (NoPanic Q) (Held Lh) last fuel (listed.setIfInBounds i' true) a' w') (NoPanic Q)) : AnyT P ops (NoPanic Q) (Held Lh) last (fuel + 1) listed a w := by
  have hr' := of_decide_eq_true hr
  refine ⟨fun h0 => (by rw [hr'] at h0; cases h0), ?_⟩
  rw [hr']
  intro j hj
  simp at hj
  rcases hj with rfl | rfl
  · exact h_op hi h
  · exact h_op hi' h'

/-- One of three. -/
theorem h_three {i i' i'' : Nat} {dd dd' dd'' : Option Tmp} {op op' op'' : Op} {ty ty' ty'' : TypeId} {pos pos' pos'' : String} {aft aft' aft'' : Array Edge} (hr : decide (Region.ready .any ops listed = [i, i', i'']) = true) (hi : ops[i]? = some ⟨dd, op, ty, pos, aft, none⟩) (hi' : ops[i']? = some ⟨dd', op', ty', pos', aft', none⟩) (hi'' : ops[i'']? = some ⟨dd'', op'', ty'', pos'', aft'', none⟩)
    (h : Oper.wp P ⟨dd, op, ty, pos, aft, none⟩ a w (fun a' w' => (last ≤ i ∨ Held Lh w') ∧ AnyT P ops (NoPanic Q) (Held Lh) last fuel (listed.setIfInBounds i true) a' w') (NoPanic Q))
    (h' : Oper.wp P ⟨dd', op', ty', pos', aft', none⟩ a w (fun a' w' => (last ≤ i' ∨ Held Lh w') ∧ AnyT P ops (NoPanic Q) (Held Lh) last fuel (listed.setIfInBounds i' true) a' w') (NoPanic Q))
    (h'' : Oper.wp P ⟨dd'', op'', ty'', pos'', aft'', none⟩ a w (fun a' w' => (last ≤ i'' ∨ Held Lh w') ∧ AnyT P ops (NoPanic Q) (Held Lh) last fuel (listed.setIfInBounds i'' true) a' w') (NoPanic Q)) : AnyT P ops (NoPanic Q) (Held Lh) last (fuel + 1) listed a w := by
  have hr' := of_decide_eq_true hr
  refine ⟨fun h0 => (by rw [hr'] at h0; cases h0), ?_⟩
  rw [hr']
  intro j hj
  simp at hj
  rcases hj with rfl | rfl | rfl
  · exact h_op hi h
  · exact h_op hi' h'
  · exact h_op hi'' h''

theorem k_held {i : Nat} {R : Prop} (st : St w0 N a w E L) (hs : List.Sublist Lh L) (h : R) : (last ≤ i ∨ Held Lh w) ∧ R := ⟨.inr (st.held hs), h⟩
theorem k_last {i : Nat} {R : Prop} (h : R) (hi : Nat.ble last i = true := by rfl) : (last ≤ i ∨ Held Lh w) ∧ R := ⟨.inl (Nat.le_of_ble_eq_true hi), h⟩

/-! ### the same, in short words -/
/-- A part of a list, found from the front. -/
inductive SL : List Ent → List Ent → Prop
  | none {l : List Ent} : SL [] l
  | refl {l : List Ent} : SL l l
  | both {e : Ent} {l l' : List Ent} : SL l l' → SL (e :: l) (e :: l')
  | skip {e : Ent} {l l' : List Ent} : SL l l' → SL l (e :: l')
theorem SL.sub {L L' : List Ent} (h : SL L L') : List.Sublist L L' := by
  induction h with
  | none => exact List.nil_sublist _
  | refl => exact List.Sublist.refl _
  | both _ ih => exact ih.cons_cons _
  | skip _ ih => exact ih.cons _
/-- The drawing, where the region's shape is known to be in order. -/
def AnyV (P : Program) (ops : Array Oper) (Q : Exit → Act → World → Prop) (S : World → Prop) (last fuel : Nat) (listed : Array Bool) (a : Act) (w : World) : Prop :=
  waitsAll ops last = true → Region.noSelect ops = true → AnyT P ops Q S last fuel listed a w
theorem d_v {d : Nat} {op : Op} {ty : TypeId} {pos : String} {aft : Array Edge} {v : Value} (i : Nat) (st : St w0 N a w E L) (hs : SL Lh L)
    (hi : ops[i]? = some ⟨some d, op, ty, pos, aft, none⟩) (hf : (Region.free .any ops listed i && (Region.ready .any ops listed).contains i && waitsI ops last i && closedL ops listed) = true) (hd : Nat.blt d N = true) (hv : Vl P a Lh op v)
    (h : ∀ a', St w0 N a' w ((d, v) :: E) L → AnyV P ops (NoPanic Q) (Held Lh) last fuel (listed.setIfInBounds i true) a' w) : AnyV P ops (NoPanic Q) (Held Lh) last (fuel + 1) listed a w :=
  fun hl hns => h_val st hs.sub hl hns hi hf hd hv fun a' st => h a' st hl hns
theorem d_done (hr : (Region.ready .any ops listed).isEmpty = true) (h : Q .normal a w) : AnyV P ops (NoPanic Q) (Held Lh) last fuel listed a w := fun _ _ => h_done hr h
theorem k_mono {i : Nat} {R R' : Prop} (h : (last ≤ i ∨ Held Lh w) ∧ R) (f : R → R') : (last ≤ i ∨ Held Lh w) ∧ R' := ⟨h.1, f h.2⟩
theorem d_one {dd : Option Tmp} {op : Op} {ty : TypeId} {pos : String} {aft : Array Edge} (i : Nat) (hr : decide (Region.ready .any ops listed = [i]) = true) (hi : ops[i]? = some ⟨dd, op, ty, pos, aft, none⟩)
    (h : Oper.wp P ⟨dd, op, ty, pos, aft, none⟩ a w (fun a' w' => (last ≤ i ∨ Held Lh w') ∧ AnyV P ops (NoPanic Q) (Held Lh) last fuel (listed.setIfInBounds i true) a' w') (NoPanic Q)) : AnyV P ops (NoPanic Q) (Held Lh) last (fuel + 1) listed a w :=
  fun hl hns => h_one hr hi (Oper.wp_mono (fun _ _ h => k_mono h fun f => f hl hns) h)
theorem d_two {dd dd' : Option Tmp} {op op' : Op} {ty ty' : TypeId} {pos pos' : String} {aft aft' : Array Edge} (i i' : Nat) (hr : decide (Region.ready .any ops listed = [i, i']) = true) (hi : ops[i]? = some ⟨dd, op, ty, pos, aft, none⟩) (hi' : ops[i']? = some ⟨dd', op', ty', pos', aft', none⟩)
    (h : Oper.wp P ⟨dd, op, ty, pos, aft, none⟩ a w (fun a' w' => (last ≤ i ∨ Held Lh w') ∧ AnyV P ops (NoPanic Q) (Held Lh) last fuel (listed.setIfInBounds i true) a' w') (NoPanic Q))
    (h' : Oper.wp P ⟨dd', op', ty', pos', aft', none⟩ a w (fun a' w' => (last ≤ i' ∨ Held Lh w') ∧ AnyV P ops (NoPanic Q) (Held Lh) last fuel (listed.setIfInBounds i' true) a' w') (NoPanic Q)) : AnyV P ops (NoPanic Q) (Held Lh) last (fuel + 1) listed a w :=
  fun hl hns => h_two hr hi hi' (Oper.wp_mono (fun _ _ h => k_mono h fun f => f hl hns) h) (Oper.wp_mono (fun _ _ h => k_mono h fun f => f hl hns) h')
theorem d_three {dd dd' dd'' : Option Tmp} {op op' op'' : Op} {ty ty' ty'' : TypeId} {pos pos' pos'' : String} {aft aft' aft'' : Array Edge} (i i' i'' : Nat) (hr : decide (Region.ready .any ops listed = [i, i', i'']) = true) (hi : ops[i]? = some ⟨dd, op, ty, pos, aft, none⟩) (hi' : ops[i']? = some ⟨dd', op', ty', pos', aft', none⟩) (hi'' : ops[i'']? = some ⟨dd'', op'', ty'', pos'', aft'', none⟩)
    (h : Oper.wp P ⟨dd, op, ty, pos, aft, none⟩ a w (fun a' w' => (last ≤ i ∨ Held Lh w') ∧ AnyV P ops (NoPanic Q) (Held Lh) last fuel (listed.setIfInBounds i true) a' w') (NoPanic Q))
    (h' : Oper.wp P ⟨dd', op', ty', pos', aft', none⟩ a w (fun a' w' => (last ≤ i' ∨ Held Lh w') ∧ AnyV P ops (NoPanic Q) (Held Lh) last fuel (listed.setIfInBounds i' true) a' w') (NoPanic Q))
    (h'' : Oper.wp P ⟨dd'', op'', ty'', pos'', aft'', none⟩ a w (fun a' w' => (last ≤ i'' ∨ Held Lh w') ∧ AnyV P ops (NoPanic Q) (Held Lh) last fuel (listed.setIfInBounds i'' true) a' w') (NoPanic Q)) : AnyV P ops (NoPanic Q) (Held Lh) last (fuel + 1) listed a w :=
  fun hl hns => h_three hr hi hi' hi'' (Oper.wp_mono (fun _ _ h => k_mono h fun f => f hl hns) h) (Oper.wp_mono (fun _ _ h => k_mono h fun f => f hl hns) h') (Oper.wp_mono (fun _ _ h => k_mono h fun f => f hl hns) h'')
theorem kh {i : Nat} {R : Prop} (st : St w0 N a w E L) (hs : SL Lh L) (h : R) : (last ≤ i ∨ Held Lh w) ∧ R := k_held st hs.sub h

theorem c_draw {id last : Nat} {l : List Oper} (Lh : List Ent) (hm : P.follows .mixedOrders = true) (_hns : Region.noSelect l.toArray = true) (_hl : waitsAll l.toArray last = true) (st : St w0 N a w E L)
    (h : ∀ w', St w0 N a w' E L → AnyV P l.toArray (NoPanic Q) (Held Lh) last l.length (Array.replicate l.length false) a w') : (Code.region id l.toArray true).wp P Q a w := by
  refine wp_region_noPanic (wp_region_any hm (any_of_T (S := Held Lh) (last := last) _ _ _ _ ?_))
  exact h (w.drewN 1) (st.drewN 1) _hl _hns

/-- With one meeting point behind the region. -/
theorem c_drawC {id last : Nat} {l : List Oper} (F : List (Nat × Value) → List Ent → Act → World → Prop) (Lh : List Ent) (hm : P.follows .mixedOrders = true) (hns : Region.noSelect l.toArray = true) (hl : waitsAll l.toArray last = true) (st : St w0 N a w E L)
    (h : ∀ w', St w0 N a w' E L → AnyV P l.toArray (NoPanic (fun e a w => e = .normal ∧ F E L a w)) (Held Lh) last l.length (Array.replicate l.length false) a w') (h2 : ∀ a w, F E L a w → Q .normal a w) : (Code.region id l.toArray true).wp P Q a w :=
  wp_mono (c_draw Lh hm hns hl st h) fun _ a w ⟨he, hF⟩ => by subst he; exact h2 a w hF

/-- The same, where all that is known is held. -/
theorem c_drawA {id last : Nat} {l : List Oper} (hm : P.follows .mixedOrders = true) (hns : Region.noSelect l.toArray = true) (hl : waitsAll l.toArray last = true) (st : St w0 N a w E L)
    (h : ∀ w', St w0 N a w' E L → AnyV P l.toArray (NoPanic Q) (Held L) last l.length (Array.replicate l.length false) a w') : (Code.region id l.toArray true).wp P Q a w := c_draw L hm hns hl st h
theorem c_drawCA {id last : Nat} {l : List Oper} (F : List (Nat × Value) → List Ent → Act → World → Prop) (hm : P.follows .mixedOrders = true) (hns : Region.noSelect l.toArray = true) (hl : waitsAll l.toArray last = true) (st : St w0 N a w E L)
    (h : ∀ w', St w0 N a w' E L → AnyV P l.toArray (NoPanic (fun e a w => e = .normal ∧ F E L a w)) (Held L) last l.length (Array.replicate l.length false) a w') (h2 : ∀ a w, F E L a w → Q .normal a w) : (Code.region id l.toArray true).wp P Q a w := c_drawC F L hm hns hl st h h2

/-! ### values -/
theorem v_field {cs : Array Value} {s f fo : Nat} {x : Operand} {v : Value} [hf : FieldT P s f fo] (st : St w0 N a w E L) (hx : evE E x = some (.agg cs)) (hv : cs[fo]? = some v) : Vl P a Lh (.field s x f) v := by
  intro d ty pos aft g w' _; simp [execOp, evE_eval st hx, hf.val cs v w' hv]
theorem v_move {x : Operand} {v : Value} (st : St w0 N a w E L) (hx : evE E x = some v) : Vl P a Lh (.move x) v := by
  intro d ty pos aft g w' _; simp [execOp, evE_eval st hx]
theorem v_assign {x : Operand} {v : Value} (st : St w0 N a w E L) (hx : evE E x = some v) : Vl P a Lh (.assign x) v := by
  intro d ty pos aft g w' _; simp [execOp, evE_eval st hx]
theorem v_extract {x : Operand} {vs : Array Value} {ix : Nat} {v : Value} (st : St w0 N a w E L) (hx : evE E x = some (.tuple vs)) (hv : vs[ix]? = some v) : Vl P a Lh (.extract x ix) v := by
  intro d ty pos aft g w' _; simp [execOp, evE_eval st hx, Instr.extract, hv]
theorem v_not {x : Operand} {t : TypeId} {b : Bool} (st : St w0 N a w E L) (hx : evE E x = some (.bool b)) : Vl P a Lh (.unOp .not t x) (.bool (!b)) := by
  intro d ty pos aft g w' _; simp [execOp, evE_eval st hx, Op.unary]
theorem v_fieldAddr {s f b off fo : Nat} {x : Operand} [hf : FieldT P s f fo] (st : St w0 N a w E L) (hx : evE E x = some (.pointer (some ⟨b, off, none⟩))) : Vl P a Lh (.fieldAddr s x f) (.pointer (some ⟨b, off + fo, none⟩)) := by
  intro d ty pos aft g w' _; simp [execOp, evE_eval st hx, hf.at_]
theorem v_loadS {t t' : TypeId} {x : Operand} {b off : Nat} {own : Bool} {cs : Array Value} {fr : Nat × Nat} {v : Value} [ht : ScaT P t] (st : St w0 N a w E L)
    (hx : evE E x = some (.pointer (some ⟨b, off, none⟩))) (hA : At Lh b own (.cells cs t' fr)) (hv : cs[off]? = some v) : Vl P a Lh (.load t x) v := by
  intro d ty pos aft g w' hw'
  have hb := hw' _ hA.mem
  have hc : w'.cell? ⟨b, off, none⟩ = some v := (cell_of_row w' b off cs t' fr hb).trans hv
  simp only [execOp, evE_eval st hx, Instr.loadAt, Instr.sureAddr, loadVar, Sem.run_bind, Sem.run_pure, Result.andThen_ok, ht.agg, if_false, Bool.false_eq_true, run_load, hc]
theorem v_loadA {t t' : TypeId} {x : Operand} {b off n : Nat} {own : Bool} {cs : Array Value} {fr : Nat × Nat} (us : List Value) [ht : AggT P t n] (st : St w0 N a w E L)
    (hx : evE E x = some (.pointer (some ⟨b, off, none⟩))) (hA : At Lh b own (.cells cs t' fr)) (hn : us.length = n) (hv : ∀ j u, us[j]? = some u → cs[off + j]? = some u) : Vl P a Lh (.load t x) (.agg us.toArray) := by
  intro d ty pos aft g w' hw'
  have hb := hw' _ hA.mem
  have hl : (loadCells ⟨b, off, none⟩ n).run P w' = .ok us.toArray w' := by
    subst hn
    refine run_loadCells_list (P := P) w' ⟨b, off, none⟩ us ?_
    intro j u hj
    rw [Addr.add_lit]
    exact (cell_of_row w' b _ cs t' fr hb).trans (hv j u hj)
  simp only [execOp, evE_eval st hx, Instr.loadAt, Instr.sureAddr, loadVar, Sem.run_bind, Sem.run_pure, Result.andThen_ok, ht.agg, ht.size, if_true, hl]
theorem v_load3 {t t' : TypeId} {x : Operand} {b : Nat} {own : Bool} {c0 c1 c2 : Value} {fr : Nat × Nat} [ht : AggT P t 3] (st : St w0 N a w E L)
    (hx : evE E x = some (.pointer (some ⟨b, 0, none⟩))) (hA : At Lh b own (.cells [c0, c1, c2].toArray t' fr)) : Vl P a Lh (.load t x) (.agg [c0, c1, c2].toArray) := v_loadA [c0, c1, c2] st hx hA rfl load3
theorem v_indexAddr {t e b off len cap sz bz : Nat} {zs : List Value} {x y : Operand} {k : IntKind} {i : Int} [hs : SliceT P t e] [he : ElemT P e sz bz zs] (st : St w0 N a w E L) (hx : evE E x = some (.slice (some ⟨b, off, none⟩) len cap)) (hy : evE E y = some (.int k i))
    (h0 : 0 ≤ i) (h1 : i < len) : Vl P a Lh (.indexAddr t x y) (.pointer (some ⟨b, off + i.toNat * sz, none⟩)) := by
  intro d ty pos aft g w' _
  obtain ⟨i', z, hi, _, hsz, _⟩ := he.info
  have hel : P.elem t = e := by simp [Program.elem, hs.u]
  have := run_indexAt_slice (P := P) w' t ⟨b, off, none⟩ len cap k i (by rw [hel]; exact hs.u)
  simp only [execOp, evE_eval st hx, evE_eval st hy, Sem.run_bind, this, h0, h1, and_self, if_true, hel, sizeOf, typeInfo, run_program, Result.andThen_ok, hi, Sem.run_pure, hsz, Addr.add_lit]
theorem v_add64 {x y : Operand} {t ys : TypeId} {i j : Int} (st : St w0 N a w E L) (hx : evE E x = some (.int .i64 i)) (hy : evE E y = some (.int .i64 j)) (h0 : -9223372036854775808 ≤ i + j) (h1 : i + j ≤ 9223372036854775807) : Vl P a Lh (.binOp .add t x y ys) (.int .i64 (i + j)) := by
  intro d ty pos aft g w' _
  have : IntKind.i64.wrap (i + j) = i + j := by rw [IntKind.wrap_i64]; omega
  simp [execOp, evE_eval st hx, evE_eval st hy, binOp_add, Op.intArith, this, eqGuard_add]
theorem v_sub64 {x y : Operand} {t ys : TypeId} {i j : Int} (st : St w0 N a w E L) (hx : evE E x = some (.int .i64 i)) (hy : evE E y = some (.int .i64 j)) (h0 : -9223372036854775808 ≤ i - j) (h1 : i - j ≤ 9223372036854775807) : Vl P a Lh (.binOp .sub t x y ys) (.int .i64 (i - j)) := by
  intro d ty pos aft g w' _
  have : IntKind.i64.wrap (i - j) = i - j := by rw [IntKind.wrap_i64]; omega
  simp [execOp, evE_eval st hx, evE_eval st hy, binOp_sub, Op.intArith, this, eqGuard_sub]
theorem v_intFloat {x : Operand} {src dst : TypeId} {q q' : IntKind} {k : FloatKind} {n : Int} [hs : IntT P src q'] [hk : FloatT P dst k] (st : St w0 N a w E L) (hx : evE E x = some (.int q n)) : Vl P a Lh (.convert src dst x) (.float k (floatOfInt k n)) := by
  intro d ty pos aft g w' _
  simp only [execOp, evE_eval st hx, Sem.run_bind, Sem.run_pure, Result.andThen_ok, run_convert_int_float w' src dst q k n (by simp [hs.u]) hk.u]
theorem v_neqI {x y : Operand} {t ys : TypeId} {k : IntKind} {i j : Int} (st : St w0 N a w E L) (hx : evE E x = some (.int k i)) (hy : evE E y = some (.int k j)) : Vl P a Lh (.binOp .neq t x y ys) (.bool (i != j)) := by
  intro d ty pos aft g w' _
  simp [execOp, evE_eval st hx, evE_eval st hy, binOp_neq, eqGuard_at_int]
theorem v_len {t e : TypeId} {x : Operand} {base : Option Addr} {n c : Nat} [hs : SliceT P t e] (st : St w0 N a w E L) (hx : evE E x = some (.slice base n c)) : Vl P a Lh (.call { callee := .builtin .len, args := #[x], argTypes := #[t] }) (.int .i64 (n : Int)) := by
  intro d ty pos aft g w' _
  have hel : P.elem t = e := by simp [Program.elem, hs.u]
  simp [execOp, resolve, invoke, builtin, evE_eval st hx, run_len_slice (P := P) w' t ty base n c (by rw [hel]; exact hs.u), goInt]
end
end Go.Proofs.YtclgplbikjmopaaGreatDoor
