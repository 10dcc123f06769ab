/-
  FnCurves: the source of choices.
-/
import Derived.Test.YtonbcbhnnflohaaZe
namespace Go.Proofs.Ytonbcbhnnflohaa
open Go.RowKit

/-- A struct of three single cells at 0, 1, 2. -/
class B3T (P : Program) (t : TypeId) (z0 z1 z2 : outParam Value) : Prop where
  b : ∀ parts, P.built t parts = Instr.fill ([(0, 1), (1, 1), (2, 1)].toArray[·]?) [z0, z1, z2].toArray parts
instance : B3T Try.prog 112 (.slice none 0 0) (.int .i64 0) (.int .u64 0) := ⟨fun parts => by kernel_rfl⟩
section
variable {P : Program} {w0 w : World} {N : Nat} {a : Act} {E : List (Nat × Value)} {L Lh : List Ent} {K : Act → World → Prop} {Q : Exit → Act → World → Prop}
variable {d : Nat} {ty : TypeId} {pos : String} {aft : Array Edge} {g : Option (Nat × Bool)}
theorem src_no_byte {v : Value} {i j c : Int} {k : Nat} (hs : ∀ q, v ≠ .int .u8 q) (h : [v, .int .i64 i, .int .u64 j].toArray[k]? = some (.int .u8 c)) : False := by
  match k with
  | 0 => simp at h; exact hs _ h
  | 1 => simp at h
  | 2 => simp at h
  | k + 3 => simp at h
theorem fill1 {z0 z1 z2 v0 : Value} (h0 : v0.oneCell' = true) : Instr.fill ([(0, 1), (1, 1), (2, 1)].toArray[·]?) [z0, z1, z2].toArray [(0, v0)] = some [v0, z1, z2].toArray := by
  have c0 : v0.cells = #[v0] := cells_sca h0
  simp [Instr.fill, c0]
theorem o_build1 {t : TypeId} {x : Operand} {z0 z1 z2 v0 : Value} [hb : B3T P t z0 z1 z2] (st : St w0 N a w E L) (hx : evE E x = some v0) (h0 : v0.oneCell' = true) (hd : Nat.blt d N = true)
    (h : ∀ a', St w0 N a' w ((d, .agg [v0, z1, z2].toArray) :: E) L → K a' w) : Oper.wp P ⟨some d, .build t #[(0, x)], ty, pos, aft, g⟩ a w K Q :=
  o_build (parts := [(0, x)]) (cs := [v0, z1, z2]) st (fun w => run_build w t _ _ (by
    rw [hb.b]
    simp only [List.map_cons, List.map_nil, evE_eval st hx]
    exact fill1 h0)) hd h
theorem v_nilCheck {x : Operand} {ad : Addr} (st : St w0 N a w E L) (hx : evE E x = some (.pointer (some ad))) : Vl P a Lh (.nilCheck x) (.pointer (some ad)) := by
  intro d ty pos aft g w' _
  simp [execOp, evE_eval st hx]

/-! ## plain -/
theorem o_mulW {x y : Operand} {t ys : TypeId} {k : IntKind} {i j : Int} (st : St w0 N a w E L) (hx : evE E x = some (.int k i)) (hy : evE E y = some (.int k j)) (hd : Nat.blt d N = true)
    (h : ∀ a', St w0 N a' w ((d, .int k (k.wrap (i * j))) :: E) L → K a' w) : Oper.wp P ⟨some d, .binOp .mul t x y ys, ty, pos, aft, g⟩ a w K Q :=
  o_val (v := .int k (k.wrap (i * j))) (w' := w) (by simp [execOp, evE_eval st hx, evE_eval st hy, binOp_mul, Op.intArith, eqGuard_mul]) (h _ (st.put d hd _))
theorem o_nilCheck {x : Operand} {ad : Addr} (st : St w0 N a w E L) (hx : evE E x = some (.pointer (some ad))) (hd : Nat.blt d N = true)
    (h : ∀ a', St w0 N a' w ((d, .pointer (some ad)) :: E) L → K a' w) : Oper.wp P ⟨some d, .nilCheck x, ty, pos, aft, g⟩ a w K Q :=
  o_val (v := .pointer (some ad)) (w' := w) (by simp [execOp, evE_eval st hx]) (h _ (st.put d hd _))
end

/-! ## the source of choices -/
def oSrc (base : Option Addr) (n cap at_ : Nat) (sd : Int) : Obj := .cells [.slice base n cap, .int .i64 at_, .int .u64 sd].toArray 112 (0, 0)
/-- The bytes' block, as a known one, if there is one. -/
theorem RdB.code {w : World} {base : Option Addr} {cs : List Int} {b n cap at_ : Nat} {sd : Int} {base' : Option Addr} (h : RdB w base cs) (hb : w.heap[b]? = some (oSrc base' n cap at_ sd)) :
    ∃ Lk : List Ent, (∀ e ∈ Lk, e.own = false ∧ e.b ≠ b ∧ w.heap[e.b]? = some e.o) ∧ (∀ w' : World, (∀ e ∈ Lk, w'.heap[e.b]? = some e.o) → RdB w' base cs) := by
  by_cases hcs : cs = []
  · exact ⟨[], by simp, fun _ _ => .inl hcs⟩
  rcases h with h | ⟨blk, off, arr, t, fr, h1, h2, h3⟩
  · exact absurd h hcs
  · refine ⟨[⟨blk, false, .cells arr t fr⟩], ?_, fun w' h => .inr ⟨blk, off, arr, t, fr, h1, h ⟨blk, false, .cells arr t fr⟩ (by simp), h3⟩⟩
    intro e he
    simp only [List.mem_singleton] at he
    subst he
    refine ⟨rfl, ?_, h2⟩
    rintro rfl
    have h2 : w.heap[blk]? = some (.cells arr t fr) := h2
    have hb : w.heap[blk]? = some (oSrc base' n cap at_ sd) := hb
    rw [h2] at hb
    cases hb
    cases cs with
    | nil => exact hcs rfl
    | cons c cs =>
      exact src_no_byte (by simp) (h3 0 c rfl)

attribute [local irreducible] Code.wp wpList Oper.wp Calls bodyPost Exit.then Exit.inBlock

set_option maxHeartbeats 16000000 in
theorem l00next_ok (cs : List Int) (hok : okB cs) (hlen : cs.length ≤ 1000000000) (base : Option Addr) (cap at_ : Nat) (hat : at_ ≤ 1000000000) (sd : Int) (b : Nat) (w : World) (hr : RdB w base cs) (hb : w.heap[b]? = some (oSrc base cs.length cap at_ sd)) :
    CUX Try.prog 113 [.pointer (some ⟨b, 0, none⟩)] w b (fun v o' => ∃ (x : Nat) (sd' : Int), v = .int .i64 x ∧ x ≤ 255 ∧ o' = oSrc base cs.length cap (at_ + 1) sd') := by
  by_cases hlt : at_ < cs.length
  · rcases hr with rfl | ⟨blk, off, arr, t, fr, rfl, hw, h3⟩
    · simp at hlt
    have hne : blk ≠ b := by
      rintro rfl
      rw [hw] at hb
      cases hb
      exact src_no_byte (by simp) (h3 at_ _ (List.getElem?_eq_getElem hlt))
    have hv := h3 at_ _ (List.getElem?_eq_getElem hlt)
    have hc := hok _ (List.getElem_mem hlt)
    obtain ⟨c, hcc⟩ : ∃ c : Nat, cs[at_] = (c : Int) := ⟨cs[at_].toNat, by omega⟩
    rw [hcc] at hv hc
    have e1 : off + at_ = off + ((at_ : Nat) : Int).toNat * 1 := by simp
    rw [e1] at hv
    have ew : IntKind.i64.wrap ((c : Nat) : Int) = (c : Int) := by rw [IntKind.wrap_i64]; omega
    have ew2 : IntKind.u64.wrap ((c : Nat) : Int) = (c : Int) := wrap_u64 (by omega) (by omega)
    refine enterUX [⟨blk, false, .cells arr t fr⟩] (by intro e he; simp only [List.mem_singleton] at he; subst he; exact ⟨rfl, hne, hw⟩) hb Try.func113 rfl rfl rfl rfl ?_
    intro a w0 Lf st
    have st : St w0 _ a w _ (⟨b, true, oSrc (some ⟨blk, off, none⟩) cs.length cap at_ sd⟩ :: ⟨blk, false, .cells arr t fr⟩ :: Lf) := st
    (repeat' (first | refine c_seq ?_  | refine c_region ?_  | refine l_do ?_  | refine l_nil ?_  | refine x_then ?_  | refine x_thenR ?_  | refine wp_ret ?_  | refine wp_skip ?_  | refine c_condT st rfl ?_  | refine c_condF st rfl ?_  | ((first | refine o_move st rfl rfl ?_  | refine o_assign st rfl rfl ?_  | refine o_fieldAddr st rfl rfl ?_  | refine o_loadS st rfl (by repeat constructor) rfl rfl ?_ ); clear st; intro _ st)  | ((first | refine o_storeS st rfl rfl rfl (by repeat constructor) rfl (by dsimp only [List.set]) ?_ ); clear st; intro _ _ st)  | ((first | refine o_add64 st rfl rfl rfl (by omega) (by omega) ?_  | refine o_mulW st rfl rfl rfl ?_  | refine o_nilCheck st rfl rfl ?_ ); clear st; intro _ st)  | ((first | refine o_lss st rfl rfl rfl ?_ ?_  | refine o_leq st rfl rfl rfl ?_ ?_) <;> clear st <;> intro _ _ st <;> (try (exfalso; omega)))))
    refine c_drawA (last := 10) hm_ (by decide +kernel) (by decide +kernel) st ?_; clear st; intro _ st
    refine d_v 0 st (by repeat constructor) rfl (by decide +kernel) rfl (v_move st rfl) ?_; clear st; intro _ st
    refine d_v 1 st (by repeat constructor) rfl (by decide +kernel) rfl (v_nilCheck st rfl) ?_; clear st; intro _ st
    refine d_v 2 st (by repeat constructor) rfl (by decide +kernel) rfl (v_fieldAddr st rfl) ?_; clear st; intro _ st
    refine d_v 3 st (by repeat constructor) rfl (by decide +kernel) rfl (by first | exact v_load3 st rfl (by repeat constructor) | exact v_loadS st rfl (by repeat constructor) rfl) ?_; clear st; intro _ st
    refine d_v 4 st (by repeat constructor) rfl (by decide +kernel) rfl (v_move st rfl) ?_; clear st; intro _ st
    refine d_v 5 st (by repeat constructor) rfl (by decide +kernel) rfl (v_nilCheck st rfl) ?_; clear st; intro _ st
    refine d_v 6 st (by repeat constructor) rfl (by decide +kernel) rfl (v_fieldAddr st rfl) ?_; clear st; intro _ st
    refine d_v 7 st (by repeat constructor) rfl (by decide +kernel) rfl (by first | exact v_load3 st rfl (by repeat constructor) | exact v_loadS st rfl (by repeat constructor) rfl) ?_; clear st; intro _ st
    refine d_v 8 st (by repeat constructor) rfl (by decide +kernel) rfl (v_len st rfl) ?_; clear st; intro _ st
    refine d_one 9 (by decide +kernel) rfl ?_
    (first | (refine o_lss st rfl rfl rfl ?_ ?_ <;> clear st <;> intro _ _ st <;> (try (exfalso; omega))))
    refine kh st (by repeat constructor) ?_
    refine d_done (by decide +kernel) ?_
    (repeat' (first | refine c_seq ?_  | refine c_region ?_  | refine l_do ?_  | refine l_nil ?_  | refine x_then ?_  | refine x_thenR ?_  | refine wp_ret ?_  | refine wp_skip ?_  | refine c_condT st rfl ?_  | refine c_condF st rfl ?_  | ((first | refine o_move st rfl rfl ?_  | refine o_assign st rfl rfl ?_  | refine o_fieldAddr st rfl rfl ?_  | refine o_loadS st rfl (by repeat constructor) rfl rfl ?_ ); clear st; intro _ st)  | ((first | refine o_storeS st rfl rfl rfl (by repeat constructor) rfl (by dsimp only [List.set]) ?_ ); clear st; intro _ _ st)  | ((first | refine o_add64 st rfl rfl rfl (by omega) (by omega) ?_  | refine o_mulW st rfl rfl rfl ?_  | refine o_nilCheck st rfl rfl ?_ ); clear st; intro _ st)  | ((first | refine o_lss st rfl rfl rfl ?_ ?_  | refine o_leq st rfl rfl rfl ?_ ?_) <;> clear st <;> intro _ _ st <;> (try (exfalso; omega)))))
    refine c_drawA (last := 11) hm_ (by decide +kernel) (by decide +kernel) st ?_; clear st; intro _ st
    refine d_v 0 st (by repeat constructor) rfl (by decide +kernel) rfl (v_move st rfl) ?_; clear st; intro _ st
    refine d_v 1 st (by repeat constructor) rfl (by decide +kernel) rfl (v_nilCheck st rfl) ?_; clear st; intro _ st
    refine d_v 2 st (by repeat constructor) rfl (by decide +kernel) rfl (v_fieldAddr st rfl) ?_; clear st; intro _ st
    refine d_v 3 st (by repeat constructor) rfl (by decide +kernel) rfl (by first | exact v_load3 st rfl (by repeat constructor) | exact v_loadS st rfl (by repeat constructor) rfl) ?_; clear st; intro _ st
    refine d_v 4 st (by repeat constructor) rfl (by decide +kernel) rfl (v_move st rfl) ?_; clear st; intro _ st
    refine d_v 5 st (by repeat constructor) rfl (by decide +kernel) rfl (v_nilCheck st rfl) ?_; clear st; intro _ st
    refine d_v 6 st (by repeat constructor) rfl (by decide +kernel) rfl (v_fieldAddr st rfl) ?_; clear st; intro _ st
    refine d_v 7 st (by repeat constructor) rfl (by decide +kernel) rfl (by first | exact v_load3 st rfl (by repeat constructor) | exact v_loadS st rfl (by repeat constructor) rfl) ?_; clear st; intro _ st
    refine d_v 8 st (by repeat constructor) rfl (by decide +kernel) rfl (v_indexAddr st rfl rfl (by omega) (by omega)) ?_; clear st; intro _ st
    refine d_v 9 st (by repeat constructor) rfl (by decide +kernel) rfl (v_loadS st rfl (by repeat constructor) hv) ?_; clear st; intro _ st
    refine d_one 10 (by decide +kernel) rfl ?_
    refine o_intInt st rfl ew rfl ?_; clear st; intro _ st
    refine kh st (by repeat constructor) ?_
    refine d_one 11 (by decide +kernel) rfl ?_
    (first | (refine o_assign st rfl rfl ?_; clear st; intro _ st))
    refine k_last ?_
    refine d_done (by decide +kernel) ?_
    (repeat' (first | (refine o_intInt st rfl ew2 rfl ?_; clear st; intro _ st)  | (refine o_addW (k := .u64) st rfl rfl rfl ?_; clear st; intro _ st)  | refine c_seq ?_  | refine c_region ?_  | refine l_do ?_  | refine l_nil ?_  | refine x_then ?_  | refine x_thenR ?_  | refine wp_ret ?_  | refine wp_skip ?_  | refine c_condT st rfl ?_  | refine c_condF st rfl ?_  | ((first | refine o_move st rfl rfl ?_  | refine o_assign st rfl rfl ?_  | refine o_fieldAddr st rfl rfl ?_  | refine o_loadS st rfl (by repeat constructor) rfl rfl ?_ ); clear st; intro _ st)  | ((first | refine o_storeS st rfl rfl rfl (by repeat constructor) rfl (by dsimp only [List.set]) ?_ ); clear st; intro _ _ st)  | ((first | refine o_add64 st rfl rfl rfl (by omega) (by omega) ?_  | refine o_mulW st rfl rfl rfl ?_  | refine o_nilCheck st rfl rfl ?_ ); clear st; intro _ st)  | ((first | refine o_lss st rfl rfl rfl ?_ ?_  | refine o_leq st rfl rfl rfl ?_ ?_) <;> clear st <;> intro _ _ st <;> (try (exfalso; omega)))))
    refine c_drawA (last := 10) hm_ (by decide +kernel) (by decide +kernel) st ?_; clear st; intro _ st
    refine d_v 0 st (by repeat constructor) rfl (by decide +kernel) rfl (v_move st rfl) ?_; clear st; intro _ st
    refine d_v 1 st (by repeat constructor) rfl (by decide +kernel) rfl (v_nilCheck st rfl) ?_; clear st; intro _ st
    refine d_v 2 st (by repeat constructor) rfl (by decide +kernel) rfl (v_fieldAddr st rfl) ?_; clear st; intro _ st
    refine d_v 3 st (by repeat constructor) rfl (by decide +kernel) rfl (by first | exact v_load3 st rfl (by repeat constructor) | exact v_loadS st rfl (by repeat constructor) rfl) ?_; clear st; intro _ st
    refine d_v 4 st (by repeat constructor) rfl (by decide +kernel) rfl (v_move st rfl) ?_; clear st; intro _ st
    refine d_v 5 st (by repeat constructor) rfl (by decide +kernel) rfl (v_nilCheck st rfl) ?_; clear st; intro _ st
    refine d_v 6 st (by repeat constructor) rfl (by decide +kernel) rfl (v_fieldAddr st rfl) ?_; clear st; intro _ st
    refine d_v 7 st (by repeat constructor) rfl (by decide +kernel) rfl (by first | exact v_load3 st rfl (by repeat constructor) | exact v_loadS st rfl (by repeat constructor) rfl) ?_; clear st; intro _ st
    refine d_v 8 st (by repeat constructor) rfl (by decide +kernel) rfl (v_len st rfl) ?_; clear st; intro _ st
    refine d_one 9 (by decide +kernel) rfl ?_
    (first | (refine o_leq st rfl rfl rfl ?_ ?_ <;> clear st <;> intro _ _ st <;> (try (exfalso; omega))))
    refine kh st (by repeat constructor) ?_
    refine d_done (by decide +kernel) ?_
    (repeat' (first | refine c_seq ?_  | refine c_region ?_  | refine l_do ?_  | refine l_nil ?_  | refine x_then ?_  | refine x_thenR ?_  | refine wp_ret ?_  | refine wp_skip ?_  | refine c_condT st rfl ?_  | refine c_condF st rfl ?_  | ((first | refine o_move st rfl rfl ?_  | refine o_assign st rfl rfl ?_  | refine o_fieldAddr st rfl rfl ?_  | refine o_loadS st rfl (by repeat constructor) rfl rfl ?_ ); clear st; intro _ st)  | ((first | refine o_storeS st rfl rfl rfl (by repeat constructor) rfl (by dsimp only [List.set]) ?_ ); clear st; intro _ _ st)  | ((first | refine o_add64 st rfl rfl rfl (by omega) (by omega) ?_  | refine o_mulW st rfl rfl rfl ?_  | refine o_nilCheck st rfl rfl ?_ ); clear st; intro _ st)  | ((first | refine o_lss st rfl rfl rfl ?_ ?_  | refine o_leq st rfl rfl rfl ?_ ?_) <;> clear st <;> intro _ _ st <;> (try (exfalso; omega)))))
    refine post1 st Try.results113 (rd_t st rfl) ?_
    exact ⟨_, _, rfl, ⟨c, _, rfl, by omega, rfl⟩, _, (st.fit (E' := []) trivial).subL (by repeat (first | exact List.Sublist.refl _  | apply List.Sublist.cons_cons  | apply List.Sublist.cons  | exact List.nil_sublist _))⟩
  · refine enterUX [] (by simp) hb Try.func113 rfl rfl rfl rfl ?_
    intro a w0 Lf st
    have st : St w0 _ a w _ (⟨b, true, oSrc base cs.length cap at_ sd⟩ :: Lf) := st
    (repeat' (first | refine c_seq ?_  | refine c_region ?_  | refine l_do ?_  | refine l_nil ?_  | refine x_then ?_  | refine x_thenR ?_  | refine wp_ret ?_  | refine wp_skip ?_  | refine c_condT st rfl ?_  | refine c_condF st rfl ?_  | ((first | refine o_move st rfl rfl ?_  | refine o_assign st rfl rfl ?_  | refine o_fieldAddr st rfl rfl ?_  | refine o_loadS st rfl (by repeat constructor) rfl rfl ?_ ); clear st; intro _ st)  | ((first | refine o_storeS st rfl rfl rfl (by repeat constructor) rfl (by dsimp only [List.set]) ?_ ); clear st; intro _ _ st)  | ((first | refine o_add64 st rfl rfl rfl (by omega) (by omega) ?_  | refine o_mulW st rfl rfl rfl ?_  | refine o_nilCheck st rfl rfl ?_ ); clear st; intro _ st)  | ((first | refine o_lss st rfl rfl rfl ?_ ?_  | refine o_leq st rfl rfl rfl ?_ ?_) <;> clear st <;> intro _ _ st <;> (try (exfalso; omega)))))
    refine c_drawA (last := 10) hm_ (by decide +kernel) (by decide +kernel) st ?_; clear st; intro _ st
    refine d_v 0 st (by repeat constructor) rfl (by decide +kernel) rfl (v_move st rfl) ?_; clear st; intro _ st
    refine d_v 1 st (by repeat constructor) rfl (by decide +kernel) rfl (v_nilCheck st rfl) ?_; clear st; intro _ st
    refine d_v 2 st (by repeat constructor) rfl (by decide +kernel) rfl (v_fieldAddr st rfl) ?_; clear st; intro _ st
    refine d_v 3 st (by repeat constructor) rfl (by decide +kernel) rfl (by first | exact v_load3 st rfl (by repeat constructor) | exact v_loadS st rfl (by repeat constructor) rfl) ?_; clear st; intro _ st
    refine d_v 4 st (by repeat constructor) rfl (by decide +kernel) rfl (v_move st rfl) ?_; clear st; intro _ st
    refine d_v 5 st (by repeat constructor) rfl (by decide +kernel) rfl (v_nilCheck st rfl) ?_; clear st; intro _ st
    refine d_v 6 st (by repeat constructor) rfl (by decide +kernel) rfl (v_fieldAddr st rfl) ?_; clear st; intro _ st
    refine d_v 7 st (by repeat constructor) rfl (by decide +kernel) rfl (by first | exact v_load3 st rfl (by repeat constructor) | exact v_loadS st rfl (by repeat constructor) rfl) ?_; clear st; intro _ st
    refine d_v 8 st (by repeat constructor) rfl (by decide +kernel) rfl (v_len st rfl) ?_; clear st; intro _ st
    refine d_one 9 (by decide +kernel) rfl ?_
    (first | (refine o_lss st rfl rfl rfl ?_ ?_ <;> clear st <;> intro _ _ st <;> (try (exfalso; omega))))
    refine kh st (by repeat constructor) ?_
    refine d_done (by decide +kernel) ?_
    (repeat' (first | (refine o_intInt (k := .u64) st rfl rfl rfl ?_; clear st; intro _ st)  | (refine o_addW (k := .u64) st rfl rfl rfl ?_; clear st; intro _ st)  | refine c_seq ?_  | refine c_region ?_  | refine l_do ?_  | refine l_nil ?_  | refine x_then ?_  | refine x_thenR ?_  | refine wp_ret ?_  | refine wp_skip ?_  | refine c_condT st rfl ?_  | refine c_condF st rfl ?_  | ((first | refine o_move st rfl rfl ?_  | refine o_assign st rfl rfl ?_  | refine o_fieldAddr st rfl rfl ?_  | refine o_loadS st rfl (by repeat constructor) rfl rfl ?_ ); clear st; intro _ st)  | ((first | refine o_storeS st rfl rfl rfl (by repeat constructor) rfl (by dsimp only [List.set]) ?_ ); clear st; intro _ _ st)  | ((first | refine o_add64 st rfl rfl rfl (by omega) (by omega) ?_  | refine o_mulW st rfl rfl rfl ?_  | refine o_nilCheck st rfl rfl ?_ ); clear st; intro _ st)  | ((first | refine o_lss st rfl rfl rfl ?_ ?_  | refine o_leq st rfl rfl rfl ?_ ?_) <;> clear st <;> intro _ _ st <;> (try (exfalso; omega)))))
    refine c_drawA (last := 10) hm_ (by decide +kernel) (by decide +kernel) st ?_; clear st; intro _ st
    refine d_v 0 st (by repeat constructor) rfl (by decide +kernel) rfl (v_move st rfl) ?_; clear st; intro _ st
    refine d_v 1 st (by repeat constructor) rfl (by decide +kernel) rfl (v_nilCheck st rfl) ?_; clear st; intro _ st
    refine d_v 2 st (by repeat constructor) rfl (by decide +kernel) rfl (v_fieldAddr st rfl) ?_; clear st; intro _ st
    refine d_v 3 st (by repeat constructor) rfl (by decide +kernel) rfl (by first | exact v_load3 st rfl (by repeat constructor) | exact v_loadS st rfl (by repeat constructor) rfl) ?_; clear st; intro _ st
    refine d_v 4 st (by repeat constructor) rfl (by decide +kernel) rfl (v_move st rfl) ?_; clear st; intro _ st
    refine d_v 5 st (by repeat constructor) rfl (by decide +kernel) rfl (v_nilCheck st rfl) ?_; clear st; intro _ st
    refine d_v 6 st (by repeat constructor) rfl (by decide +kernel) rfl (v_fieldAddr st rfl) ?_; clear st; intro _ st
    refine d_v 7 st (by repeat constructor) rfl (by decide +kernel) rfl (by first | exact v_load3 st rfl (by repeat constructor) | exact v_loadS st rfl (by repeat constructor) rfl) ?_; clear st; intro _ st
    refine d_v 8 st (by repeat constructor) rfl (by decide +kernel) rfl (v_len st rfl) ?_; clear st; intro _ st
    refine d_one 9 (by decide +kernel) rfl ?_
    (first | (refine o_leq st rfl rfl rfl ?_ ?_ <;> clear st <;> intro _ _ st <;> (try (exfalso; omega))))
    refine kh st (by repeat constructor) ?_
    refine d_done (by decide +kernel) ?_
    (repeat' (first | (refine o_shrI (k := .u64) st rfl rfl (by omega) rfl ?_; clear st; intro sr _ st)  | (refine o_and255 st rfl rfl rfl ?_; clear st; intro x _ hx st)  | (refine o_intInt (k := .i64) st rfl (by rw [IntKind.wrap_i64]; omega) rfl ?_; clear st; intro _ st)  | refine c_seq ?_  | refine c_region ?_  | refine l_do ?_  | refine l_nil ?_  | refine x_then ?_  | refine x_thenR ?_  | refine wp_ret ?_  | refine wp_skip ?_  | refine c_condT st rfl ?_  | refine c_condF st rfl ?_  | ((first | refine o_move st rfl rfl ?_  | refine o_assign st rfl rfl ?_  | refine o_fieldAddr st rfl rfl ?_  | refine o_loadS st rfl (by repeat constructor) rfl rfl ?_ ); clear st; intro _ st)  | ((first | refine o_storeS st rfl rfl rfl (by repeat constructor) rfl (by dsimp only [List.set]) ?_ ); clear st; intro _ _ st)  | ((first | refine o_add64 st rfl rfl rfl (by omega) (by omega) ?_  | refine o_mulW st rfl rfl rfl ?_  | refine o_nilCheck st rfl rfl ?_ ); clear st; intro _ st)  | ((first | refine o_lss st rfl rfl rfl ?_ ?_  | refine o_leq st rfl rfl rfl ?_ ?_) <;> clear st <;> intro _ _ st <;> (try (exfalso; omega)))))
    refine post1 st Try.results113 (rd_t st rfl) ?_
    exact ⟨_, _, rfl, ⟨x, _, rfl, hx, rfl⟩, _, (st.fit (E' := []) trivial).subL (by repeat (first | exact List.Sublist.refl _  | apply List.Sublist.cons_cons  | apply List.Sublist.cons  | exact List.nil_sublist _))⟩
set_option maxHeartbeats 16000000 in
theorem pick_ok (n : Int) (h1 : 1 < n) (cs : List Int) (hok : okB cs) (hlen : cs.length ≤ 1000000000) (base : Option Addr) (cap at_ : Nat) (hat : at_ ≤ 999999990) (sd : Int) (b : Nat) (w : World) (hr : RdB w base cs) (hb : w.heap[b]? = some (oSrc base cs.length cap at_ sd)) :
    CUX Try.prog 69 [.pointer (some ⟨b, 0, none⟩), .int .i64 n] w b (fun v o' => ∃ (x at' : Nat) (sd' : Int), v = .int .i64 x ∧ (x : Int) < n ∧ at_ ≤ at' ∧ at' ≤ at_ + 2 ∧ o' = oSrc base cs.length cap at' sd') := by
  obtain ⟨Lk, hLk, hcode⟩ := hr.code hb
  refine enterUX Lk hLk hb Try.func69 rfl rfl rfl rfl ?_
  intro a w0 Lf st
  have hrd : ∀ {a : Act} {w : World} {E : List (Nat × Value)} {o : Obj}, St w0 Try.f69.ntmps a w E (⟨b, true, o⟩ :: (Lk ++ Lf)) → RdB w base cs := fun s => hcode _ fun e he => (s.facts e (List.mem_cons_of_mem _ (List.mem_append_left _ he))).1
  (repeat' (first | (refine o_mul64 st rfl rfl rfl (by omega) (by omega) ?_; clear st; intro _ st)  | (refine o_callUX (L' := fun o' => ⟨b, true, o'⟩ :: (Lk ++ Lf)) st rfl (l00next_ok cs hok hlen base cap at_ (by omega) sd b _ (hrd st) (st.heap (by repeat constructor))) (fun o' => Upd.here) rfl ?_; clear st; rintro _ _ ⟨x, sd1, rfl, hx, rfl⟩ _ _ st)  | refine c_seq ?_  | refine c_region ?_  | refine l_do ?_  | refine l_nil ?_  | refine x_then ?_  | refine wp_ret ?_  | refine wp_skip ?_  | refine c_condT st rfl ?_  | refine c_condF st rfl ?_  | ((first | refine o_move st rfl rfl ?_  | refine o_assign st rfl rfl ?_  | refine o_add64 st rfl rfl rfl (by omega) (by omega) ?_ ); clear st; intro _ st)  | ((first | refine o_leq st rfl rfl rfl ?_ ?_  | refine o_gtr st rfl rfl rfl ?_ ?_) <;> clear st <;> intro _ _ st <;> (try (exfalso; omega)))))
  · (repeat' (first | (refine o_add64 st rfl rfl rfl (by omega) (by omega) ?_; clear st; intro _ st)  | (refine o_callUX (L' := fun o' => ⟨b, true, o'⟩ :: (Lk ++ Lf)) st rfl (l00next_ok cs hok hlen base cap (at_ + 1) (by omega) sd1 b _ (hrd st) (st.heap (by repeat constructor))) (fun o' => Upd.here) rfl ?_; clear st; rintro _ _ ⟨y, sd2, rfl, hy, rfl⟩ _ _ st)  | refine c_seq ?_  | refine c_region ?_  | refine l_do ?_  | refine l_nil ?_  | refine x_then ?_  | refine wp_ret ?_  | refine wp_skip ?_  | refine c_condT st rfl ?_  | refine c_condF st rfl ?_  | ((first | refine o_move st rfl rfl ?_  | refine o_assign st rfl rfl ?_  | refine o_add64 st rfl rfl rfl (by omega) (by omega) ?_ ); clear st; intro _ st)  | ((first | refine o_leq st rfl rfl rfl ?_ ?_  | refine o_gtr st rfl rfl rfl ?_ ?_) <;> clear st <;> intro _ _ st <;> (try (exfalso; omega)))))
    have e1 : (x : Int) * 256 + (y : Int) = ((x * 256 + y : Nat) : Int) := by omega
    rw [e1] at st
    (repeat' (first | (refine o_rem64I st rfl rfl (by omega) rfl ?_; clear st; intro r _ hr st)  | refine c_seq ?_  | refine c_region ?_  | refine l_do ?_  | refine l_nil ?_  | refine x_then ?_  | refine wp_ret ?_  | refine wp_skip ?_  | refine c_condT st rfl ?_  | refine c_condF st rfl ?_  | ((first | refine o_move st rfl rfl ?_  | refine o_assign st rfl rfl ?_  | refine o_add64 st rfl rfl rfl (by omega) (by omega) ?_ ); clear st; intro _ st)  | ((first | refine o_leq st rfl rfl rfl ?_ ?_  | refine o_gtr st rfl rfl rfl ?_ ?_) <;> clear st <;> intro _ _ st <;> (try (exfalso; omega)))))
    refine post1 st Try.results69 (rd_t st rfl) ?_
    exact ⟨_, _, rfl, ⟨r, _, sd2, rfl, hr, by omega, by omega, rfl⟩, _, (st.fit (E' := []) trivial).subL (List.Sublist.cons_cons _ (List.sublist_append_right _ _))⟩
  · (repeat' (first | (refine o_rem64I st rfl rfl (by omega) rfl ?_; clear st; intro r _ hr st)  | refine c_seq ?_  | refine c_region ?_  | refine l_do ?_  | refine l_nil ?_  | refine x_then ?_  | refine wp_ret ?_  | refine wp_skip ?_  | refine c_condT st rfl ?_  | refine c_condF st rfl ?_  | ((first | refine o_move st rfl rfl ?_  | refine o_assign st rfl rfl ?_  | refine o_add64 st rfl rfl rfl (by omega) (by omega) ?_ ); clear st; intro _ st)  | ((first | refine o_leq st rfl rfl rfl ?_ ?_  | refine o_gtr st rfl rfl rfl ?_ ?_) <;> clear st <;> intro _ _ st <;> (try (exfalso; omega)))))
    refine post1 st Try.results69 (rd_t st rfl) ?_
    exact ⟨_, _, rfl, ⟨r, _, sd1, rfl, hr, by omega, by omega, rfl⟩, _, (st.fit (E' := []) trivial).subL (List.Sublist.cons_cons _ (List.sublist_append_right _ _))⟩
end Go.Proofs.Ytonbcbhnnflohaa
