/-
  A small engine for walks, of whatever program: the frame is a variable of which an association list is known, the memory is a variable of which some blocks are known. One rule for each operation.
-/
import Derived.WalkKit
import Derived.WalkSpells
import Derived.WalkLawsBesides
import Derived.Deep.LoopGhost
namespace Go.Proofs.YtclgplbikjmopaaGreatDoor
open Go.RowKit

/-! ## frames and memory -/

/-- A block that is known: its number, whether the call made it, what it holds. -/
structure Ent where
  b : Nat
  own : Bool
  o : Obj

def lk : List (Nat × Value) → Nat → Option Value
  | [], _ => none
  | p :: E, i => bif Nat.beq p.1 i then some p.2 else lk E i

def evE (E : List (Nat × Value)) : Operand → Option Value
  | .tmp t => lk E t
  | .const v => some v
  | .func f => some (.func (.func f) #[] #[])
  | .global g => some (.pointer (some ⟨g, 0, none⟩))

def evs (E : List (Nat × Value)) : List Operand → Option (List Value)
  | [] => some []
  | x :: xs => match evE E x with
    | some v => match evs E xs with
      | some vs => some (v :: vs)
      | none => none
    | none => none

structure St (w0 : World) (N : Nat) (a : Act) (w : World) (E : List (Nat × Value)) (L : List Ent) : Prop where
  env : ∀ i v, lk E i = some v → a.tmps[i]? = some v
  size : a.tmps.size = N
  defers : a.defers = []
  below : Below w0.heap.size w0 w
  facts : ∀ e ∈ L, w.heap[e.b]? = some e.o ∧ (e.own = true → w0.heap.size ≤ e.b)
  uniq : L.Pairwise fun x y => (x.own = true ∨ y.own = true) → x.b ≠ y.b

/-- What a callee leaves behind: old memory as it was, and some blocks of its own. -/
structure Ex (w w' : World) (L : List Ent) : Prop where
  below : Below w.heap.size w w'
  facts : ∀ e ∈ L, w'.heap[e.b]? = some e.o ∧ w.heap.size ≤ e.b
  uniq : L.Pairwise fun x y => x.b ≠ y.b

inductive At : List Ent → Nat → Bool → Obj → Prop
  | here {b own o L} : At (⟨b, own, o⟩ :: L) b own o
  | there {e L b own o} : At L b own o → At (e :: L) b own o

inductive Upd : List Ent → Nat → Obj → Obj → List Ent → Prop
  | here {b o o' L} : Upd (⟨b, true, o⟩ :: L) b o o' (⟨b, true, o'⟩ :: L)
  | there {e L b o o' L'} : Upd L b o o' L' → Upd (e :: L) b o o' (e :: L')

theorem At.mem {L b own o} (h : At L b own o) : (⟨b, own, o⟩ : Ent) ∈ L := by
  induction h with
  | here => exact List.mem_cons_self
  | there _ ih => exact List.mem_cons_of_mem _ ih

theorem evE_eval {w0 N a w E L} (st : St w0 N a w E L) {x : Operand} {v : Value} (h : evE E x = some v) : a.eval x = v := by
  cases x with
  | tmp t =>
    have := st.env t v h
    simp [Act.eval, Array.getD_eq_getD_getElem?, this]
  | const u => simpa [evE, Act.eval] using h
  | global g => simpa [evE, Act.eval] using h
  | func f => simpa [evE, Act.eval] using h

theorem evs_map {w0 N a w E L} (st : St w0 N a w E L) : ∀ {xs : List Operand} {vs : List Value}, evs E xs = some vs → xs.map a.eval = vs
  | [], vs, h => by simp [evs] at h; simp [h]
  | x :: xs, vs, h => by
    simp only [evs] at h
    cases hx : evE E x with
    | none => simp [hx] at h
    | some v =>
      cases hxs : evs E xs with
      | none => simp [hx, hxs] at h
      | some us =>
        simp [hx, hxs] at h
        subst h
        simp [evE_eval st hx, evs_map st hxs]

theorem St.heap {w0 N a w E L} (st : St w0 N a w E L) {b own o} (h : At L b own o) : w.heap[b]? = some o := (st.facts _ h.mem).1
theorem St.lt {w0 N a w E L} (st : St w0 N a w E L) {b own o} (h : At L b own o) : b < w.heap.size := (Array.getElem?_eq_some_iff.1 (st.heap h)).1
theorem St.ge {w0 N a w E L} (st : St w0 N a w E L) {b o} (h : At L b true o) : w0.heap.size ≤ b := (st.facts _ h.mem).2 rfl

/-- The frame behind a write to a slot. -/
theorem St.put {w0 N a w E L} (st : St w0 N a w E L) (d : Nat) (hd : Nat.blt d N = true) (v : Value) : St w0 N (a.put (some d) v) w ((d, v) :: E) L := by
  have hdN : d < N := by simpa [Nat.blt_eq] using hd
  refine ⟨?_, by simp [Act.put, st.size], by simp [Act.put, st.defers], st.below, st.facts, st.uniq⟩
  intro i u hu
  have hs := st.size
  simp only [lk] at hu
  simp only [Act.put]
  cases hb : Nat.beq d i with
  | true =>
    have : d = i := Nat.eq_of_beq_eq_true hb
    subst this
    simp at hu
    subst hu
    simp [hs, hdN]
  | false =>
    have hne : d ≠ i := Nat.ne_of_beq_eq_false hb
    simp [hb] at hu
    have := st.env i u hu
    simp [hne, this]

theorem St.putNone {w0 N a w E L} (st : St w0 N a w E L) (v : Value) : St w0 N (a.put none v) w E L := st

/-- Fewer slots, other order. -/
theorem St.sub {w0 N a w E L} (st : St w0 N a w E L) {E' : List (Nat × Value)} (h : ∀ p ∈ E', lk E p.1 = some p.2) : St w0 N a w E' L := by
  refine ⟨?_, st.size, st.defers, st.below, st.facts, st.uniq⟩
  intro i v hv
  have key : ∀ (F : List (Nat × Value)), (∀ p ∈ F, lk E p.1 = some p.2) → lk F i = some v → lk E i = some v := by
    intro F
    induction F with
    | nil => intro _ h; simp [lk] at h
    | cons p F ih =>
      intro hF hl
      simp only [lk] at hl
      cases hb : Nat.beq p.1 i with
      | true =>
        have : p.1 = i := Nat.eq_of_beq_eq_true hb
        simp [hb] at hl
        have := hF p List.mem_cons_self
        subst hl
        rw [← ‹p.1 = i›]
        exact this
      | false =>
        simp [hb] at hl
        exact ih (fun q hq => hF q (List.mem_cons_of_mem _ hq)) hl
  exact st.env i v (key E' h hv)

/-- Fewer blocks, in whatever order. -/
theorem St.subL {w0 N a w E L} (st : St w0 N a w E L) {L' : List Ent} (h : List.Sublist L' L) : St w0 N a w E L' :=
  ⟨st.env, st.size, st.defers, st.below, fun e he => st.facts e (h.mem he), st.uniq.sublist h⟩

/-- Memory that grows by one block. -/
theorem St.alloc {w0 N a w E L} (st : St w0 N a w E L) (o : Obj) : St w0 N a (w.alloc o) E (⟨w.heap.size, true, o⟩ :: L) := by
  refine ⟨st.env, st.size, st.defers, st.below.alloc st.below.size o, ?_, ?_⟩
  · intro e he
    rcases List.mem_cons.1 he with rfl | he
    · exact ⟨heap_alloc_new w o, fun _ => st.below.size⟩
    · have := st.facts e he
      refine ⟨?_, this.2⟩
      rw [Below.heap_alloc w o _ (Array.getElem?_eq_some_iff.1 this.1).1]
      exact this.1
  · refine List.pairwise_cons.2 ⟨?_, st.uniq⟩
    intro e he _
    have := (Array.getElem?_eq_some_iff.1 (st.facts e he).1).1
    simp
    omega

theorem St.drewN {w0 N a w E L} (st : St w0 N a w E L) (n : Nat) : St w0 N a (w.drewN n) E L :=
  ⟨st.env, st.size, st.defers, below_drewN st.below n, st.facts, st.uniq⟩

theorem Upd.old {L b o o' L'} (h : Upd L b o o' L') : At L b true o := by
  induction h with
  | here => exact .here
  | there _ ih => exact .there ih

theorem Upd.mem {L b o o' L'} (h : Upd L b o o' L') : ∀ e ∈ L', e = ⟨b, true, o'⟩ ∨ e ∈ L := by
  induction h with
  | here => intro e he; rcases List.mem_cons.1 he with rfl | he; exact .inl rfl; exact .inr (List.mem_cons_of_mem _ he)
  | there _ ih => intro e he; rcases List.mem_cons.1 he with rfl | he; exact .inr List.mem_cons_self; exact (ih e he).imp id (List.mem_cons_of_mem _)

theorem Upd.pair {L b o o' L'} (h : Upd L b o o' L') : L.Pairwise (fun x y => (x.own = true ∨ y.own = true) → x.b ≠ y.b) → L'.Pairwise (fun x y => (x.own = true ∨ y.own = true) → x.b ≠ y.b) := by
  induction h with
  | here =>
    intro hp
    obtain ⟨h1, h2⟩ := List.pairwise_cons.1 hp
    exact List.pairwise_cons.2 ⟨fun e he => h1 e he, h2⟩
  | there hu ih =>
    intro hp
    obtain ⟨h1, h2⟩ := List.pairwise_cons.1 hp
    refine List.pairwise_cons.2 ⟨?_, ih h2⟩
    intro e he
    rcases hu.mem e he with rfl | he
    · intro _
      have := h1 _ hu.old.mem (.inr rfl)
      exact this
    · exact h1 e he

/-- In a list whose own blocks are apart, whatever is not the entry itself lies in another block. -/
theorem Upd.other {L b o o' L'} (h : Upd L b o o' L') : L.Pairwise (fun x y => (x.own = true ∨ y.own = true) → x.b ≠ y.b) → ∀ e ∈ L', e = ⟨b, true, o'⟩ ∨ (e ∈ L ∧ e.b ≠ b) := by
  induction h with
  | here =>
    intro hp e he
    obtain ⟨h1, _⟩ := List.pairwise_cons.1 hp
    rcases List.mem_cons.1 he with rfl | he
    · exact .inl rfl
    · exact .inr ⟨List.mem_cons_of_mem _ he, (h1 e he (.inl rfl)).symm⟩
  | there hu ih =>
    intro hp e he
    obtain ⟨h1, h2⟩ := List.pairwise_cons.1 hp
    rcases List.mem_cons.1 he with rfl | he
    · exact .inr ⟨List.mem_cons_self, h1 _ hu.old.mem (.inr rfl)⟩
    · exact (ih h2 e he).imp id fun ⟨a, b⟩ => ⟨List.mem_cons_of_mem _ a, b⟩

/-- A change of one own block. -/
theorem St.upd {w0 N a w w' E L b o o' L'} (st : St w0 N a w E L) (hu : Upd L b o o' L') (hw : Below b w w') (hb : ∀ k, k ≠ b → k < w.heap.size → w'.heap[k]? = w.heap[k]?) (hn : w'.heap[b]? = some o') : St w0 N a w' E L' := by
  refine ⟨st.env, st.size, st.defers, st.below.trans (hw.mono (st.ge hu.old)), ?_, hu.pair st.uniq⟩
  intro e he
  rcases hu.other st.uniq e he with rfl | ⟨he, hne⟩
  · exact ⟨hn, fun _ => st.ge hu.old⟩
  · have := st.facts e he
    refine ⟨?_, this.2⟩
    rw [hb e.b hne (Array.getElem?_eq_some_iff.1 this.1).1]
    exact this.1

/-- Behind a call. -/
theorem St.ext {w0 N a w w' E L L'} (st : St w0 N a w E L) (hx : Ex w w' L') : St w0 N a w' E (L' ++ L.map fun e => e) := by
  have hL : (L.map fun e => e) = L := by simp
  rw [hL]
  refine ⟨st.env, st.size, st.defers, st.below.trans (hx.below.mono st.below.size), ?_, ?_⟩
  · intro e he
    rcases List.mem_append.1 he with he | he
    · exact ⟨(hx.facts e he).1, fun _ => Nat.le_trans st.below.size (hx.facts e he).2⟩
    · have := st.facts e he
      refine ⟨?_, this.2⟩
      rw [hx.below.block e.b (Array.getElem?_eq_some_iff.1 this.1).1]
      exact this.1
  · refine List.pairwise_append.2 ⟨List.Pairwise.imp (R := fun x y : Ent => x.b ≠ y.b) (S := fun x y : Ent => (x.own = true ∨ y.own = true) → x.b ≠ y.b) (fun h _ => h) hx.uniq, st.uniq, ?_⟩
    intro x hx' y hy _
    have h1 := (hx.facts x hx').2
    have h2 := (Array.getElem?_eq_some_iff.1 (st.facts y hy).1).1
    omega

theorem St.ext0 {w0 N a w w' E L} (st : St w0 N a w E L) (hx : Ex w w' []) : St w0 N a w' E L := by
  have := st.ext hx
  simpa using this
theorem St.ext1 {w0 N a w w' E L e1} (st : St w0 N a w E L) (hx : Ex w w' [e1]) : St w0 N a w' E (⟨e1.b, true, e1.o⟩ :: L) := by
  have hs := st.ext hx
  simp at hs
  refine ⟨hs.env, hs.size, hs.defers, hs.below, ?_, ?_⟩
  · intro e he
    rcases List.mem_cons.1 he with rfl | he
    · exact ⟨(hx.facts e1 (by simp)).1, fun _ => Nat.le_trans st.below.size (hx.facts e1 (by simp)).2⟩
    · exact hs.facts e (List.mem_cons_of_mem _ he)
  · refine List.pairwise_cons.2 ⟨?_, st.uniq⟩
    intro y hy _
    have h1 := (hx.facts e1 (by simp)).2
    have h2 := (Array.getElem?_eq_some_iff.1 (st.facts y hy).1).1
    simp
    omega
theorem St.ext2 {w0 N a w w' E L e1 e2} (st : St w0 N a w E L) (hx : Ex w w' [e1, e2]) : St w0 N a w' E (⟨e1.b, true, e1.o⟩ :: ⟨e2.b, true, e2.o⟩ :: L) := by
  have h1 := hx.facts e1 (by simp)
  have h2 := hx.facts e2 (by simp)
  have hne : e1.b ≠ e2.b := by have := hx.uniq; simp at this; exact this
  have ho : ∀ y ∈ L, y.b < w.heap.size := fun y hy => (Array.getElem?_eq_some_iff.1 (st.facts y hy).1).1
  refine ⟨st.env, st.size, st.defers, st.below.trans (hx.below.mono st.below.size), ?_, ?_⟩
  · intro e he
    rcases List.mem_cons.1 he with rfl | he
    · exact ⟨h1.1, fun _ => Nat.le_trans st.below.size h1.2⟩
    rcases List.mem_cons.1 he with rfl | he
    · exact ⟨h2.1, fun _ => Nat.le_trans st.below.size h2.2⟩
    have := st.facts e he
    refine ⟨?_, this.2⟩
    rw [hx.below.block e.b (ho e he)]
    exact this.1
  · refine List.pairwise_cons.2 ⟨?_, List.pairwise_cons.2 ⟨?_, st.uniq⟩⟩
    · intro y hy _
      rcases List.mem_cons.1 hy with rfl | hy
      · exact hne
      · have := ho y hy; simp; omega
    · intro y hy _
      have := ho y hy; simp; omega

/-- What this walk hands on as a callee. -/
theorem St.ex0 {w0 N a w E L} (st : St w0 N a w E L) : Ex w0 w [] := ⟨st.below, by simp, by simp⟩
theorem St.ex1 {w0 N a w E L b o} (st : St w0 N a w E L) (h : At L b true o) : Ex w0 w [⟨b, true, o⟩] :=
  ⟨st.below, by intro e he; simp at he; subst he; exact ⟨st.heap h, st.ge h⟩, by simp⟩
theorem St.ex2 {w0 N a w E L b o b' o'} (st : St w0 N a w E L) (h : At L b true o) (h' : At L b' true o') (hne : b ≠ b') : Ex w0 w [⟨b, true, o⟩, ⟨b', true, o'⟩] :=
  ⟨st.below, by intro e he; simp at he; rcases he with rfl | rfl; exact ⟨st.heap h, st.ge h⟩; exact ⟨st.heap h', st.ge h'⟩, by simp [hne]⟩

theorem Ex.refl (w : World) : Ex w w [] := ⟨Below.refl _ _, by simp, by simp⟩
theorem Ex.trans {w w1 w2 : World} (h : Ex w w1 []) (h' : Ex w1 w2 []) : Ex w w2 [] := ⟨h.below.trans (h'.below.mono h.below.size), by simp, by simp⟩

end Go.Proofs.YtclgplbikjmopaaGreatDoor
