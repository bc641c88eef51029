/- The steps of a walk that bring no new names, in one place: an automatic argument; printed by genwalk.py, my own program. A walk that stops at blocks; printed by genwalk.py, my own program. Calls that write what the caller owns; stores into rows. Rules for arrays behind pointers, quotients rounded to zero. One step of a walk that stops at blocks; printed by genwalk.py, my own program. -/
import Derived.Test.YtceekohkjgiabaaGreatDoorQ05
import Derived.Orders
set_option maxHeartbeats 4000000
set_option linter.unusedVariables false
set_option linter.unusedSimpArgs false
namespace Go.Wk
open Go Go.RowKit
structure Hold (p : Prop) : Prop where
 out : p
theorem NfA {l l' : List Value} (h : Nf l l' := by repeat (first | exact Go.Wk.Nf.nil | apply Go.Wk.Nf.cons)) : Nf l l' := h
theorem SFA {a b : Fr} (h : Sub a b := by repeat (first | exact trivial | refine ⟨rfl, ?_⟩)) : Sub a b := h
theorem SOA {a b : List It} (h : SubO a b := by first | exact .refl _ | (repeat (first | exact Go.Wk.SubO.nil | (apply Go.Wk.SubO.cons; focus repeat' constructor)))) : SubO a b := h
theorem STA {a b : List It} (h : SubO a b := by repeat (first | exact Go.Wk.SubO.nil | (apply Go.Wk.SubO.cons; (focus repeat' constructor)) | exact .refl _ | apply Go.Wk.SubO.drop)) : SubO a b := h
theorem stA {G G' : Prop} (k : G') (h : Hold G' → G := by intro k; (first | (apply Go.Wk.Stp_storeNf; rfl; rfl; (focus repeat' constructor); exact Go.Wk.NfA; rfl; rfl; rfl; (focus repeat' constructor)) | (apply Go.Wk.Stp_mapUpdate; rfl; rfl; rfl; (focus repeat' constructor))); exact k.out) : G := h ⟨k⟩
theorem OA {p : Prop} (h : p := by first | omega | (dsimp only; omega)) : p := h
section
variable {P : Program} {n : Nat} {wr : World} {fr : Fr} {O : List It} {ty : TypeId} {pos : String} {af : Array Edge} {f : FuncId} {xs : List Operand} {ts : Array TypeId} {us vs cs : List Value} {dst : Option Tmp} {g : Option (Nat × Bool)} {x : Value} {gx : Operand} {Kp : Value → List It → Prop} [Body P f]
theorem callO (h : ∀ w, Bel wr.heap.size wr w → Holds wr.heap.size O w → Does P f vs w (fun v O => v = x ∧ O = [])) (k : Kp x ([] ++ O)) (hx : evsO fr xs = some vs := by rfl) : Stp P n wr fr O ⟨dst, .call ⟨.value (.func f), xs.toArray, ts⟩, ty, pos, af, g⟩ Kp :=
 Stp_call hx h (by rintro v O' ⟨rfl, rfl⟩; exact k)
theorem callE (h : ∀ w, Bel wr.heap.size wr w → Does P f vs w (fun v O => v = x ∧ O = [])) (k : Kp x ([] ++ O)) (hx : evsO fr xs = some vs := by rfl) : Stp P n wr fr O ⟨dst, .call ⟨.value (.func f), xs.toArray, ts⟩, ty, pos, af, g⟩ Kp :=
 callO (fun w h1 _ => h w h1) k hx
theorem callV (h : ∀ w, Bel wr.heap.size wr w → Holds wr.heap.size O w → Does P f (us ++ vs ++ cs) w (fun v O => v = x ∧ O = [])) (k : Kp x ([] ++ O)) (hg : ev fr gx = some (.func (.func f) us.toArray cs.toArray) := by rfl) (hx : evsO fr xs = some vs := by rfl) : Stp P n wr fr O ⟨dst, .call ⟨.value gx, xs.toArray, ts⟩, ty, pos, af, g⟩ Kp :=
 Stp_callV hg hx h (by rintro v O' ⟨rfl, rfl⟩; exact k)
end
theorem clo1 {G : Prop} (h : G := by first | (refine Go.Wk.ret_1 _ [] (.tmp rfl) .nil ⟨?_, rfl⟩; first | rfl | (simp only [*, Bool.true_and, Bool.false_and, Bool.true_or, Bool.false_or, Bool.not_true, Bool.not_false]; done) | (simp_all; done) | (simp_all; omega) | (simp_all; rw [Bool.eq_iff_iff]; simp; omega)) | (exfalso; simp_all; done) | (exfalso; simp_all; omega) | (exfalso; omega)) : G := h
theorem clo2 {G : Prop} (h : G := by first | (refine Go.Wk.ret_2 _ _ [] (.tmp rfl) (.tmp rfl) .nil ⟨?_, rfl⟩; first | rfl | (simp only [*, Bool.true_and, Bool.false_and, Bool.true_or, Bool.false_or, Bool.not_true, Bool.not_false]; done) | (simp_all; done) | (simp_all; omega) | (simp_all; rw [Bool.eq_iff_iff]; simp; omega)) | (exfalso; simp_all; done) | (exfalso; simp_all; omega) | (exfalso; omega)) : G := h
theorem rtA {G : Prop} (h : G := by exact Go.Wk.ret_1 _ [] (.tmp rfl) .nil ⟨rfl, rfl⟩) : G := h
theorem rtB {G : Prop} (h : G := by exact Go.Wk.ret_2 _ _ [] (.tmp rfl) (.tmp rfl) .nil ⟨rfl, rfl⟩) : G := h
theorem rtC {G : Prop} (h : G := by exact Go.Wk.ret_2 _ _ [] (.cellB rfl (by repeat' constructor) rfl rfl) (.tmp rfl) .nil ⟨rfl, rfl⟩) : G := h
theorem PuI {G : Prop} (h : G := by first | (apply Go.Wk.Pu_indexAddr; rfl; rfl; omega; omega; (first | exact hna | exact hnb)) | (apply Go.Wk.Pu_loadON; rfl; (first | exact hca | exact hcb); rfl) | (apply Go.Wk.Pu_loadO1'; rfl; (first | exact hca | exact hcb); rfl) | (apply Go.Wk.Pu_loadO1; rfl; (first | exact hca 0 _ rfl | exact hcb 0 _ rfl))) : G := h
theorem und {G G' : Prop} (k : G') (h : Hold G' → G := by intro k; exact Go.Wk.RL_und rfl rfl rfl rfl k.out) : G := h ⟨k⟩
theorem RLid {P : Program} {n : Nat} {wr : World} {ops : Array Oper} {rest : List Oper} {K : Fr → List It → Prop} {fr : Fr} {O : List It} (h : RL P n wr ops rest K fr O) : RL P n wr ops rest K fr O := h
theorem bx {G G' : Prop} (k : G') (h : Hold G' → G := by intro k; (first | (apply Go.Wk.Stp_boxNf; rfl; exact Go.Wk.NfA; exact k.out) | (apply Go.Wk.Stp_alloc; exact k.out) | (apply Go.Wk.Stp_buildSlice0; exact k.out) | (apply Go.Wk.Stp_buildSliceC; rfl; rfl; rfl; rfl; exact Go.Wk.NfA; exact k.out) | (apply Go.Wk.Stp_buildSliceNf; rfl; rfl; rfl; exact Go.Wk.NfA; exact k.out) | (apply Go.Wk.Stp_makeMap; exact k.out))) : G := h ⟨k⟩
section
variable {P : Program} {n : Nat} {wr : World} {ops : Array Oper} {rest : List Oper} {K : Fr → List It → Prop} {fr : Fr} {O : List It} {ty : TypeId} {pos : String} {af : Array Edge} {d : Nat}
theorem PuA {op : Op} {v : Value} (h : Pu P n wr fr O op ty v := by (first | (apply Go.Wk.Pu_move; rfl) | (apply Go.Wk.Pu_assign; rfl) | (apply Go.Wk.Pu_pickT; rfl; rfl) | (apply Go.Wk.Pu_pickF; rfl; rfl) | (apply Go.Wk.Pu_fieldAddr0; rfl) | (apply Go.Wk.Pu_fieldAddr; rfl) | (apply Go.Wk.Pu_loadNf; rfl; (focus repeat' constructor); exact Go.Wk.NfA; rfl) | (apply Go.Wk.Pu_loadB1; rfl; (focus repeat' constructor); rfl) | (apply Go.Wk.Pu_field1; rfl; rfl) | (apply Go.Wk.Pu_fieldNf; rfl; exact Go.Wk.NfA) | (apply Go.Wk.Pu_extract; rfl; rfl) | (apply Go.Wk.Pu_buildNf; rfl; rfl; exact Go.Wk.NfA) | (apply Go.Wk.Pu_nilCheck; rfl) | (apply Go.Wk.Pu_nilCheckF; rfl) | (apply Go.Wk.Pu_makeFunc; rfl; rfl) | (apply Go.Wk.Pu_lookup; rfl; rfl; (focus repeat' constructor)) | (apply Go.Wk.Pu_lookupOk; rfl; rfl; (focus repeat' constructor)) | (apply Go.Wk.Pu_not; rfl) | (apply Go.Wk.Pu_negW; rfl) | (apply Go.Wk.Pu_conv64; rfl; (constructor <;> omega)) | (apply Go.Wk.Pu_convI; rfl) | (apply Go.Wk.Pu_lss; rfl; rfl) | (apply Go.Wk.Pu_leq; rfl; rfl) | (apply Go.Wk.Pu_gtr; rfl; rfl) | (apply Go.Wk.Pu_geq; rfl; rfl) | (apply Go.Wk.Pu_eql; rfl; rfl) | (apply Go.Wk.Pu_neq; rfl; rfl) | (apply Go.Wk.Pu_remE; rfl; rfl; omega; omega) | (apply Go.Wk.Pu_rem; rfl; rfl; (first | decide | omega)) | (apply Go.Wk.Pu_quo8; rfl; rfl; omega; omega; omega) | (apply Go.Wk.Pu_quo16; rfl; rfl; omega; omega; omega) | (apply Go.Wk.Pu_quo64; rfl; rfl; omega; omega; omega) | (apply Go.Wk.Pu_quo; rfl; rfl; (first | decide | omega)) | (apply Go.Wk.Pu_loadLit; rfl; (focus repeat' constructor); rfl; (simp only [Go.Wk.lay_length, Go.Wk.sliceZ_len, List.length_cons, List.length_nil]; omega)) | (apply Go.Wk.Pu_indexAddr; rfl; rfl; omega; omega; nofun) | (apply Go.Wk.Pu_add; rfl; rfl; (constructor <;> omega)) | (apply Go.Wk.Pu_sub'; rfl; rfl; (constructor <;> omega)) | (apply Go.Wk.Pu_eqlS; rfl; rfl) | (apply Go.Wk.Pu_neqS; rfl; rfl) | (apply Go.Wk.Pu_lssS; rfl; rfl) | (apply Go.Wk.Pu_eqB; rfl; rfl) | (apply Go.Wk.Pu_neqB; rfl; rfl) | (apply Go.Wk.Pu_eqNil; rfl) | (apply Go.Wk.Pu_sliceH; rfl; rfl; omega; omega) | (apply Go.Wk.Pu_capL; rfl) | (apply Go.Wk.Pu_lenL; rfl) | (apply Go.Wk.Pu_lenS; rfl) | (apply Go.Wk.Pu_lenMap; rfl; (focus repeat' constructor)) | (apply Go.Wk.Pu_eqlE; rfl; rfl) | (apply Go.Wk.Pu_neqE; rfl; rfl))) : Pu P n wr fr O op ty v := h
theorem QyA {o : Oper} {v : Value} (h : Qy P n wr ops fr O o v := by (first | (apply Go.Wk.Qy_y; rfl; exact Go.Wk.PuA) | (apply Go.Wk.Qy_n; rfl))) : Qy P n wr ops fr O o v := h
theorem QFA {V : List Qp} (h : QF P n wr ops fr O V := by repeat (first | exact Go.Wk.QF.nil | (apply Go.Wk.QF.mk; rfl; rfl; decide +kernel; exact Go.Wk.QyA))) : QF P n wr ops fr O V := h
theorem QyI {G : Prop} (h : G := by first | (apply Go.Wk.Qy_y; rfl; exact Go.Wk.PuI) | exact Go.Wk.QyA) : G := h
theorem QFI {G : Prop} (h : G := by repeat (first | exact Go.Wk.QF.nil | (apply Go.Wk.QF.mk; rfl; rfl; decide +kernel; exact Go.Wk.QyI))) : G := h
theorem walk1 {G G' : Prop} (k : G') (h : Hold G' → G := by intro k; (first | (apply Go.Wk.RL_pu; rfl; exact Go.Wk.PuA) | (apply Go.Wk.RL_st0; refine Go.Wk.stA ?_) | apply Go.Wk.W_seq | apply Go.Wk.W_region | apply Go.Wk.RL_nil | apply Go.Wk.thenQ_n | apply Go.Wk.W_block | apply Go.Wk.W_skip | apply Go.Wk.W_ret | apply Go.Wk.W_exit | apply Go.Wk.thenQ_r | apply Go.Wk.thenQ_e | apply Go.Wk.blockQ_n | apply Go.Wk.blockQ_r | apply Go.Wk.blockQ_hit | (apply Go.Wk.blockQ_miss; rfl) | (apply Go.Wk.W_true; rfl) | (apply Go.Wk.W_false; rfl) | (apply Go.Wk.RL_yes; rfl; rfl; rfl) | (apply Go.Wk.RL_no; rfl; rfl; rfl; rfl; rfl) | (apply Go.Wk.W_draw; rfl; decide +kernel) | apply Go.Wk.RD_done | (apply Go.Wk.RD_Q; rfl; rfl; decide +kernel; rfl; rfl; exact Go.Wk.QyA) | (apply Go.Wk.RD_N; rfl; rfl; decide +kernel; rfl; rfl; rfl) | (apply Go.Wk.RD_A; rfl; rfl; decide +kernel; rfl; rfl; first | exact Go.Wk.Ay_alloc | exact Go.Wk.Ay_buildSlice0 | (apply Go.Wk.Ay_buildSliceC; rfl; rfl; rfl; rfl; exact Go.Wk.NfA) | (apply Go.Wk.Ay_buildSliceNf; rfl; rfl; rfl; exact Go.Wk.NfA))); exact k.out) : G := h ⟨k⟩
theorem walk {G G' : Prop} (k : G') (h : Hold G' → G := by intro k; refine Go.Wk.walk1 ?_; (repeat refine Go.Wk.walk1 ?_); exact k.out) : G := h ⟨k⟩
theorem walk0a {G G' : Prop} (k : G') (h : Hold G' → G := by intro k; (first | (apply Go.Wk.RL_pu; rfl; exact Go.Wk.PuA) | (apply Go.Wk.RL_st0; refine Go.Wk.stA ?_) | apply Go.Wk.W_seq | apply Go.Wk.W_region | apply Go.Wk.RL_nil | apply Go.Wk.thenQ_n | apply Go.Wk.W_block | apply Go.Wk.W_skip | apply Go.Wk.W_ret | apply Go.Wk.W_exit | apply Go.Wk.thenQ_r | apply Go.Wk.thenQ_e | apply Go.Wk.blockQ_n | apply Go.Wk.blockQ_r | apply Go.Wk.blockQ_hit | (apply Go.Wk.blockQ_miss; rfl) | (apply Go.Wk.W_true; rfl) | (apply Go.Wk.W_false; rfl) | (apply Go.Wk.RL_yes; rfl; rfl; rfl) | (apply Go.Wk.RL_no; rfl; rfl; rfl; rfl; rfl) | apply Go.Wk.RD_done | (apply Go.Wk.RD_Q; rfl; rfl; decide +kernel; rfl; rfl; exact Go.Wk.QyA) | (apply Go.Wk.RD_N; rfl; rfl; decide +kernel; rfl; rfl; rfl) | (apply Go.Wk.RD_A; rfl; rfl; decide +kernel; rfl; rfl; first | exact Go.Wk.Ay_alloc | exact Go.Wk.Ay_buildSlice0 | (apply Go.Wk.Ay_buildSliceC; rfl; rfl; rfl; rfl; exact Go.Wk.NfA) | (apply Go.Wk.Ay_buildSliceNf; rfl; rfl; rfl; exact Go.Wk.NfA))); exact k.out) : G := h ⟨k⟩
theorem walk0 {G G' : Prop} (k : G') (h : Hold G' → G := by intro k; refine Go.Wk.walk0a ?_; (repeat refine Go.Wk.walk0a ?_); exact k.out) : G := h ⟨k⟩
theorem EndsA {A B C : List It} (h : Ends A B C := by repeat (first | exact Go.Wk.Ends.nil | apply Go.Wk.Ends.cons | exact Go.Wk.Ends.app)) : Ends A B C := h
theorem RD_Lw {todo : List (Nat × Oper)} {V V' : List Qp} {Al : List Ap} {i : Nat} {o : Oper} (hstep : ∀ F, Stp P n wr fr (O ++ F) o fun v O' => ∃ O'', Ends O' F O'' ∧ QF P n wr ops (updF fr o.dst v) O'' V' ∧ RD P n wr ops todo V' Al K (updF fr o.dst v) O'')
  (hV : Filt ops i V V' := by repeat (first | exact Go.Wk.Filt.nil | (apply Go.Wk.Filt.drop; rfl) | (apply Go.Wk.Filt.dropT; rfl) | (apply Go.Wk.Filt.keep; rfl))) (hok : okL n ops fr ((i, o) :: todo) todo o = true := by rfl) (hal : alOk n fr o.dst Al = true := by rfl) : RD P n wr ops ((i, o) :: todo) V Al K fr O := RD_L hok hal hV hstep
theorem jn {G G' : Prop} (k : G') (h : Hold G' → G := by intro k; (first | (apply Go.Wk.RL_st0; exact k.out) | (apply Go.Wk.RL_st; rfl; exact k.out) | (refine Go.Wk.RD_Lw ?_; exact k.out))) : G := h ⟨k⟩
theorem js {G G' : Prop} (k : G') (h : Hold G' → G := by intro k; (first | (apply Go.Wk.RL_st0; exact k.out) | (apply Go.Wk.RL_st; rfl; exact k.out))) : G := h ⟨k⟩
theorem fin {G G' : Prop} (k : G') (h : Hold G' → G := by intro k; (first | exact ⟨_, Go.Wk.EndsA, Go.Wk.QFA, k.out⟩ | exact Go.Wk.RLid k.out | exact ⟨_, Go.Wk.EndsA, Go.Wk.SubO.right _ _, k.out⟩ | (refine ⟨_, ?_, ?_, ?_⟩; exact Go.Wk.EndsA; exact .refl _; exact k.out))) : G := h ⟨k⟩
theorem RD_G0w {todo todo' : List (Nat × Oper)} {V V' : List Qp} {Al : List Ap} {i : Nat} {o : Oper} (hstep : ∀ F, Stp P n wr fr (O ++ F) o fun v O' => ∃ O'', Ends O' F O'' ∧ SubO O O'' ∧ RD P n wr ops todo' V' Al K ((d, v) :: fr) O'') (hp : pickR ops todo Al todo = some ((i, o), todo') := by rfl) (hd : o.dst = some d := by rfl) (hks : depsK ops todo [] Al = [] := by rfl) (hV : Filt ops i V V' := by repeat (first | exact Go.Wk.Filt.nil | (apply Go.Wk.Filt.drop; rfl) | (apply Go.Wk.Filt.dropT; rfl) | (apply Go.Wk.Filt.keep; rfl))) (hok : okG n ops fr todo todo' o d Al [] = true := by rfl) : RD P n wr ops todo V Al K fr O := RD_G0 hp hd hks hok hV hstep
theorem RD_G0c {todo todo' : List (Nat × Oper)} {V V' : List Qp} {Al : List Ap} {i : Nat} {dst : Option Tmp} {gx : Operand} {xs : Array Operand} {ts : Array TypeId} {ty : TypeId} {pos : String} {af : Array Edge} {g : Option (Nat × Bool)} (hstep : ∀ F, Stp P n wr fr (O ++ F) ⟨dst, .call ⟨.value gx, xs, ts⟩, ty, pos, af, g⟩ fun v O' => ∃ O'', Ends O' F O'' ∧ SubO O O'' ∧ RD P n wr ops todo' V' Al K ((d, v) :: fr) O'') (hp : pickR ops todo Al todo = some ((i, ⟨dst, .call ⟨.value gx, xs, ts⟩, ty, pos, af, g⟩), todo') := by rfl) (hd : dst = some d := by rfl) (hks : depsK ops todo [] Al = [] := by rfl) (hV : Filt ops i V V' := by repeat (first | exact Go.Wk.Filt.nil | (apply Go.Wk.Filt.drop; rfl) | (apply Go.Wk.Filt.dropT; rfl) | (apply Go.Wk.Filt.keep; rfl))) (hok : okG n ops fr todo todo' ⟨dst, .call ⟨.value gx, xs, ts⟩, ty, pos, af, g⟩ d Al [] = true := by rfl) : RD P n wr ops todo V Al K fr O := RD_G0 hp hd hks hok hV hstep
theorem jg {G G' : Prop} (k : G') (h : Hold G' → G := by intro k; (first | (apply Go.Wk.RL_st0; exact k.out) | (apply Go.Wk.RL_st; rfl; exact k.out) | (refine Go.Wk.RD_Lw ?_; exact k.out) | (refine Go.Wk.RD_G0c ?_; exact k.out))) : G := h ⟨k⟩
end
theorem walkB1 {G G' : Prop} (k : G') (h : Hold G' → G := by intro k; (first | (apply Go.Wk.RL_pu; rfl; exact Go.Wk.PuA) | (apply Go.Wk.RL_st0; refine Go.Wk.stA ?_) | apply Go.Wk.W_seq | apply Go.Wk.W_region | apply Go.Wk.RL_nil | apply Go.Wk.thenQ_n | apply Go.Wk.W_skip | apply Go.Wk.W_ret | apply Go.Wk.W_exit | apply Go.Wk.thenQ_r | apply Go.Wk.thenQ_e | apply Go.Wk.blockQ_n | apply Go.Wk.blockQ_r | apply Go.Wk.blockQ_hit | (apply Go.Wk.blockQ_miss; rfl) | (apply Go.Wk.W_true; rfl) | (apply Go.Wk.W_false; rfl) | (apply Go.Wk.RL_yes; rfl; rfl; rfl) | (apply Go.Wk.RL_no; rfl; rfl; rfl; rfl; rfl) | (apply Go.Wk.W_draw; rfl; decide +kernel) | apply Go.Wk.RD_done | (apply Go.Wk.RD_Q; rfl; rfl; decide +kernel; rfl; rfl; exact Go.Wk.QyA) | (apply Go.Wk.RD_N; rfl; rfl; decide +kernel; rfl; rfl; rfl) | (apply Go.Wk.RD_A; rfl; rfl; decide +kernel; rfl; rfl; first | exact Go.Wk.Ay_alloc | exact Go.Wk.Ay_buildSlice0 | (apply Go.Wk.Ay_buildSliceC; rfl; rfl; rfl; rfl; exact Go.Wk.NfA) | (apply Go.Wk.Ay_buildSliceNf; rfl; rfl; rfl; exact Go.Wk.NfA))); exact k.out) : G := h ⟨k⟩
theorem walkB {G G' : Prop} (k : G') (h : Hold G' → G := by intro k; refine Go.Wk.walkB1 ?_; (repeat refine Go.Wk.walkB1 ?_); exact k.out) : G := h ⟨k⟩
def DoesIn (P : Program) (f : FuncId) (args : List Value) (wr : World) (O : List It) (R : Value → List It → Prop) : Prop :=
 ∀ w, Bel wr.heap.size wr w → Holds wr.heap.size O w → Calls P f args.toArray w fun e w' => ∃ v O', e = .returned v ∧ Bel wr.heap.size wr w' ∧ Holds wr.heap.size O' w' ∧ R v O'
theorem DoesIn_of_W {P : Program} {f : FuncId} {fn : Func} {c : Code} {args : List Value} {wr : World} {O : List It} {R : Value → List It → Prop} {n : Nat} {rs : List ResultVar} (hf : P.funcs[f]? = some fn) (hb : fn.body = some c) (hn : fn.ntmps = n) (hr : fn.results = rs.toArray)
  (ha : Nat.ble args.length n = true) (h : W P n wr c (retQ P wr rs R) (argsFr 0 args) O) : DoesIn P f args wr O R := by
 intro w hB hH
 refine calls_of_wp hf hb ?_
 have hst : St n wr (argsFr 0 args) O { tmps := args.toArray ++ Array.replicate (fn.ntmps - args.toArray.size) undef, defers := [] } w := by
  have ha' : args.length ≤ n := Nat.le_of_ble_eq_true ha
  refine ⟨⟨rfl, by simp; omega, fun t v hv => ?_⟩, hB, hH⟩
  have := (look_argsFr args 0 t v hv).2
  simp only [Nat.sub_zero] at this
  have hlt : t < args.length := (List.getElem?_eq_some_iff.1 this).1
  rw [Array.getElem?_append_left (by simpa using hlt)]
  simpa using this
 refine wp_mono (h _ w hst) ?_
 rintro e a w' ⟨fr, O1, hs, hq⟩
 have fin : (∃ vs O', ResVs P wr fr O1 rs vs ∧ SubO O' O1 ∧ R (tupV vs) O') → a.defers = [] ∧ ∃ v, (results fn a.tmps).run P w' = .ok v w' ∧ ∃ v' O, Ending.returned v = .returned v' ∧ Bel wr.heap.size wr w' ∧ Holds wr.heap.size O w' ∧ R v' O := by
  rintro ⟨vs, O', h1, h2, h3⟩
  refine ⟨hs.sim.defers, (tupV vs), ?_, _, O', rfl, hs.old, hs.own.sub h2, h3⟩
  unfold results
  rw [hr, List.mapM_toArray]
  simp only [Sem.run_bind, Sem.run_map]
  rw [run_results (P := P) hs _ (fun _ => rfl) (fun _ _ => rfl) rs vs h1]
  simp only [Result.andThen_ok, Sem.run_pure]
  congr 1
  clear h1 h3
  match vs with
  | [] => rfl
  | [v] => rfl
  | v :: u :: r => simp; rfl
 cases e with
 | ret => exact fin hq
 | normal => exact fin hq
 | _ => exact hq.elim
section
variable {P : Program} {n : Nat} {wr : World} {fr : Fr} {O : List It} {ty : TypeId} {pos : String} {af : Array Edge} {dst : Option Tmp} {g : Option (Nat × Bool)} {Kp : Value → List It → Prop}
theorem Stp_callIn {f : FuncId} {xs : List Operand} {ts : Array TypeId} {vs : List Value} {O2 : List It} {R : Value → List It → Prop} [Body P f] (hx : evsO fr xs = some vs) (h : DoesIn P f vs wr O2 R) (hO : SubO O2 O) (k : ∀ v O', R v O' → Kp v O') :
  Stp P n wr fr O ⟨dst, .call ⟨.value (.func f), xs.toArray, ts⟩, ty, pos, af, g⟩ Kp := by
 intro a w hs Kn Q hk
 have hrun : (execOp a.eval ⟨dst, .call ⟨.value (.func f), xs.toArray, ts⟩, ty, pos, af, g⟩).run P w = .ok (.enter f vs.toArray) w := by
  have := hs.sim.evsO hx
  simp [execOp, resolve, Act.eval, Deferred.ofValue, invoke, run_callFunc, this]
 unfold Oper.wp
 rw [hrun, Oper.upon_enter]
 refine (h w hs.old (hs.own.sub hO)).mono ?_
 rintro e w' ⟨v, O', rfl, hB, hH, hR⟩
 exact hk v _ w' hB hH (k v O' hR)
theorem lay_take (N : Nat) : ∀ (vs cs : List Value) (j : Nat), (lay cs j vs).take N = lay (cs.take N) j vs
 | [], _, _ => rfl
 | v :: r, cs, j => by rw [lay, lay, lay_take N r, List.take_set]
theorem Stp_storeR {t sz e size m c p : Nat} {ag : Bool} {x y : Operand} {A : Option Addr} {xs xs' vs : List Value} {v : Value} {O' : List It} [hT : Ty P t sz ag] (hx : ev fr x = some (.pointer (some ((adr A).add p)))) (hy : ev fr y = some v)
  (hu : Upd O (.row (.slice A m c) e size m xs) (.row (.slice A m c) e size m xs') O') (hvs : v.cells.toList = vs) (hl : vs.length = sz) (h1 : vs.all Value.oneCell' = true) (hp : p + sz ≤ xs.length) (h0 : 0 < sz) (hc : lay xs p vs = xs')
  (k : Kp undef O') : Stp P n wr fr O ⟨dst, .store t x y, ty, pos, af, g⟩ Kp := by
 refine Stp_skip fun a w hs => ?_
 have hsat := hs.own.sat _ hu.mem
 obtain ⟨hxl, hnn | ⟨b, cap, cur, hval, hb0, hg, hmc, hcm, hsz, hcur⟩⟩ := id hsat
 ·obtain ⟨_, rfl⟩ := hnn
  simp at hxl
  rw [hxl] at hp
  simp at hp
  omega
 injection hval with hA _ hcc
 subst hA hcc
 have hb := hs.own.inb _ hu.mem b (by simp [It.S, Value.ownBlock])
 have hxc : xs.length ≤ cur.size := by rw [← hcur, List.length_take, Array.length_toList]; omega
 have hg' : w.heap[b]? = some (.cells cur.toList.toArray e (0, 0)) := by rw [Array.toArray_toList]; exact hg
 have had : (adr (some (⟨b, 0, none⟩ : Addr))).add p = ⟨b, p, none⟩ := by
  rw [show adr (some (⟨b, 0, none⟩ : Addr)) = ⟨b, 0, none⟩ from rfl, add_mk, Nat.zero_add]
 rw [had] at hx
 have hcell : ∀ i, w.cell? ⟨b, i, none⟩ = cur.toList[i]? := fun i => by simp [World.cell?, hg]
 have hfz : ∀ i, w.frozen? ⟨b, i, none⟩ = false := fun i => by simp [World.frozen?, hg]
 have hrun := run_storeCells (P := P) (ad := ⟨b, p, none⟩) vs w 0 (fun u hu => List.all_eq_true.1 h1 u hu) (fun i hi => by
  rw [add_mk, hcell, hfz]
  refine ⟨?_, rfl⟩
  rw [List.getElem?_eq_getElem (by rw [Array.length_toList]; omega)]
  rfl)
 refine ⟨setCells w ⟨b, p, none⟩ vs 0, O', ?_, ?_, ?_, k⟩
 ·have hvsz : v.cells.size = sz := by rw [← hl, ← hvs]; simp
  simp only [execOp, hs.sim.ev hx, hs.sim.ev hy, Instr.storeAt, Instr.sureAddr, Sem.run_bind, Sem.run_pure, Result.andThen_ok, storeVar, run_sizeOf, hvsz, ne_eq, not_true, if_false, hvs, hrun]
 ·refine hs.old.trans ⟨⟨(setCells_os vs w 0).1, (setCells_os vs w 0).2.1, (setCells_os vs w 0).2.2, by rw [setCells_size]; exact Nat.le_refl _, fun i hi => setCells_heap vs w 0 i (by show i ≠ b; omega)⟩⟩
 ·refine hs.own.upd hu hs.old.size (by rw [setCells_size]; exact Nat.le_refl _) (fun i _ hi => setCells_heap vs w 0 i (fun e => hi (by rw [e]; simp [It.S, Value.ownBlock]))) ?_ (fun i hi => Or.inl hi)
  have hblk := setCells_blk (b := b) (j := p) (t := e) vs cur.toList w 0 hg'
  simp only [Nat.add_zero] at hblk
  subst hc
  refine ⟨by rw [lay_length]; exact hxl, .inr ⟨b, c, _, rfl, Nat.zero_le _, hblk, hmc, hcm, ?_, ?_⟩⟩
  ·rw [List.size_toArray, lay_length, Array.length_toList]; exact hsz
  ·rw [List.toList_toArray, lay_take, hcur]
end
section
variable {P : Program} {n : Nat} {wr : World} {fr : Fr} {O : List It} {ty : TypeId} {pos : String} {af : Array Edge} {dst : Option Tmp} {g : Option (Nat × Bool)} {Kp : Value → List It → Prop}
theorem Pu_indexS {t : TypeId} {x ix : Operand} {s : ByteArray} {kk : IntKind} {i : Int} [hS : StringT P t] (hx : ev fr x = some (.string s)) (hi : ev fr ix = some (.int kk i)) (h0 : 0 ≤ i) (h1 : i < s.size) : Pu P n wr fr O (.index t x ix) ty (.int .u8 (s.data.toList.getD i.toNat 0).toNat) :=
 fun a w hs _ _ _ _ => by
  have h := run_index_string (P := P) (w := w) t s kk i hS.h
  rw [dif_pos ⟨h0, h1⟩] at h
  have hlt : i.toNat < s.data.toList.length := by
   have : s.data.size = s.size := rfl
   rw [Array.length_toList, this]
   omega
  have e : s.data.toList.getD i.toNat 0 = s[i.toNat]'(by omega) := by
   rw [List.getD_eq_getElem?_getD, List.getElem?_eq_getElem hlt]
   rfl
  simp only [execOp, hs.sim.ev hx, hs.sim.ev hi, Sem.run_bind, h, Result.andThen_ok, e]
  rfl
theorem Pu_sliceL {t e sz bytes : Nat} {x y : Operand} {A : Option Addr} {len cap : Nat} {l : Int} [hE : ElemZ P t e sz bytes] (hx : ev fr x = some (.slice A len cap)) (hy : ev fr y = some (.int .i64 l)) (h0 : 0 ≤ l) (h1 : l ≤ len) (h2 : l < cap) :
  Pu P n wr fr O (.slice t x (some y) none none) ty (.slice (A.map (·.add (l.toNat * sz))) (len - l.toNat) (cap - l.toNat)) := fun a w hs _ _ _ _ => by
 obtain ⟨i, z, ht, hi, hz, hsz, hby, hzs, hpos⟩ := ElemZ.parts hE.h
 have hne : ¬ (cap = l.toNat) := by omega
 simp [execOp, hs.sim.ev hx, hs.sim.ev hy, Instr.sliceAt, Instr.slice, run_underlying ht, Instr.sliceBounds, run_sliceBound, h0, h1, sizeOf, typeInfo, hi, hne, hsz]
end
section
variable {P : Program} {n : Nat} {wr : World} {fr : Fr} {O : List It} {ty : TypeId} {pos : String} {af : Array Edge} {dst : Option Tmp} {g : Option (Nat × Bool)} {Kp : Value → List It → Prop}
theorem row_storeCells {e size m c p : Nat} {A : Option Addr} {xs xs' vs : List Value} {O' : List It} {a : Act} {w : World} (hs : St n wr fr O a w)
  (hu : Upd O (.row (.slice A m c) e size m xs) (.row (.slice A m c) e size m xs') O') (h1 : vs.all Value.oneCell' = true) (hp : p + vs.length ≤ xs.length) (h0 : 0 < vs.length) (hc : lay xs p vs = xs') :
  ∃ w', (storeCells ((adr A).add p) vs 0).run P w = .ok () w' ∧ Bel wr.heap.size wr w' ∧ Holds wr.heap.size O' w' := by
 have hsat := hs.own.sat _ hu.mem
 obtain ⟨hxl, hnn | ⟨b, cap, cur, hval, hb0, hg, hmc, hcm, hsz, hcur⟩⟩ := id hsat
 ·obtain ⟨_, rfl⟩ := hnn
  simp at hxl
  subst hxl
  simp only [List.length_nil] at hp
  omega
 injection hval with hA _ hcc
 subst hA hcc
 have hb := hs.own.inb _ hu.mem b (by simp [It.S, Value.ownBlock])
 have hxc : xs.length ≤ cur.size := by rw [← hcur, List.length_take, Array.length_toList]; omega
 have hg' : w.heap[b]? = some (.cells cur.toList.toArray e (0, 0)) := by rw [Array.toArray_toList]; exact hg
 have had : (adr (some (⟨b, 0, none⟩ : Addr))).add p = ⟨b, p, none⟩ := by
  rw [show adr (some (⟨b, 0, none⟩ : Addr)) = ⟨b, 0, none⟩ from rfl, add_mk, Nat.zero_add]
 rw [had]
 have hcell : ∀ i, w.cell? ⟨b, i, none⟩ = cur.toList[i]? := fun i => by simp [World.cell?, hg]
 have hfz : ∀ i, w.frozen? ⟨b, i, none⟩ = false := fun i => by simp [World.frozen?, hg]
 have hrun := run_storeCells (P := P) (ad := ⟨b, p, none⟩) vs w 0 (fun u hu => List.all_eq_true.1 h1 u hu) (fun i hi => by
  rw [add_mk, hcell, hfz]
  refine ⟨?_, rfl⟩
  rw [List.getElem?_eq_getElem (by rw [Array.length_toList]; omega)]
  rfl)
 refine ⟨setCells w ⟨b, p, none⟩ vs 0, hrun, ?_, ?_⟩
 ·refine hs.old.trans ⟨⟨(setCells_os vs w 0).1, (setCells_os vs w 0).2.1, (setCells_os vs w 0).2.2, by rw [setCells_size]; exact Nat.le_refl _, fun i hi => setCells_heap vs w 0 i (by show i ≠ b; omega)⟩⟩
 ·refine hs.own.upd hu hs.old.size (by rw [setCells_size]; exact Nat.le_refl _) (fun i _ hi => setCells_heap vs w 0 i (fun e => hi (by rw [e]; simp [It.S, Value.ownBlock]))) ?_ (fun i hi => Or.inl hi)
  have hblk := setCells_blk (b := b) (j := p) (t := e) vs cur.toList w 0 hg'
  simp only [Nat.add_zero] at hblk
  subst hc
  refine ⟨by rw [lay_length]; exact hxl, .inr ⟨b, c, _, rfl, Nat.zero_le _, hblk, hmc, hcm, ?_, ?_⟩⟩
  ·rw [List.size_toArray, lay_length, Array.length_toList]; exact hsz
  ·rw [List.toList_toArray, lay_take, hcur]
theorem Stp_clearR {t e sz bytes p k m c cp : Nat} {x : Operand} {ad : Addr} {xs : List Value} {z : Value} {O' : List It} [hE : ElemZ P t e sz bytes] [hz : ZeroV P e z] (hx : ev fr x = some (.slice (some (ad.add p)) k cp))
  (hu : Upd O (.row (.slice (some ad) m c) e sz m xs) (.row (.slice (some ad) m c) e sz m (lay xs p (Builtin.zeroCells z.cells k).toList)) O') (h1 : (Builtin.zeroCells z.cells k).toList.all Value.oneCell' = true) (hk : 0 < k) (hp : p + k * sz ≤ xs.length)
  (kk : Kp (.tuple #[]) O') : Stp P n wr fr O ⟨dst, .call ⟨.builtin .clear, #[x], #[t]⟩, ty, pos, af, g⟩ Kp := by
 refine Stp_val fun a w hs => ?_
 obtain ⟨i, z', ht, hi, hz', hsz, hby, hzs, hpos⟩ := ElemZ.parts hE.h
 have hzz : z' = z := by
  have h := hz.h
  unfold zeroV at h
  rw [hi] at h
  exact Option.some.inj (hz'.symm.trans h)
 subst hzz
 have hlen : (Builtin.zeroCells z'.cells k).toList.length = k * sz := by rw [Array.length_toList, size_zeroCells, hzs]
 obtain ⟨w', hr, h2, h3⟩ := row_storeCells (P := P) hs hu h1 (by rw [hlen]; exact hp) (by rw [hlen]; exact Nat.mul_pos hk hpos) rfl
 refine ⟨.tuple #[], w', O', ?_, h2, h3, kk⟩
 obtain ⟨k, rfl⟩ : ∃ k', k = k' + 1 := ⟨k - 1, by omega⟩
 have hr' : (storeCells (ad.add p) (Builtin.zeroCells z'.cells (k + 1)).toList 0).run P w = .ok () w' := hr
 simp [execOp, resolve, invoke, builtin, Builtin.clear_, hs.sim.ev hx, run_underlying ht, run_zeroV, hr']
theorem RL_shrink {ops : Array Oper} {l0 : List Oper} {K : Fr → List It → Prop} {e size m c : Nat} {A : Option Addr} {xs : List Value} {O' : List It} (k : Nat) (hk : k ≤ m) (hu : Upd O (.row (.slice A m c) e size m xs) (.row (.slice A k c) e size k (xs.take (k * size))) O')
  (h : RL P n wr ops l0 K fr O') : RL P n wr ops l0 K fr O := fun a w hs => h a w ⟨hs.sim, hs.old, by
 refine hs.own.upd hu hs.old.size (Nat.le_refl _) (fun _ _ _ => rfl) ?_ (fun i hi => ?_)
 ·have hsat := hs.own.sat _ hu.mem
  obtain ⟨hxl, hnn | ⟨b, cap, cur, hval, hb0, hg, hmc, hcm, hsz, hcur⟩⟩ := hsat
  ·obtain ⟨hv, rfl⟩ := hnn
   obtain rfl : k = 0 := by omega
   injection hv with h1 _ h3
   subst h1 h3
   exact ⟨by simp, .inl ⟨rfl, rfl⟩⟩
  ·injection hval with hA _ hcc
   subst hA hcc
   refine ⟨?_, .inr ⟨b, c, cur, rfl, Nat.zero_le _, hg, by omega, hcm, hsz, ?_⟩⟩
   ·have hle : k * size ≤ m * size := Nat.mul_le_mul_right size hk
    rw [List.length_take, hxl]
    omega
   ·have hle : k * size ≤ m * size := Nat.mul_le_mul_right size hk
    rw [← hcur, List.take_take, Nat.min_eq_left hle]
 ·left
  simp only [It.S, Value.ownBlock] at hi ⊢
  cases A with
  | none => exact hi
  | some a => exact hi⟩
end
section
variable {P : Program} {n : Nat} {wr : World} {ops : Array Oper} {fr : Fr} {O : List It} {K : Fr → List It → Prop} {ty : TypeId}
theorem Pu_conv8 {t t' : TypeId} {x : Operand} {kk : IntKind} {i : Int} {sz : Nat} {ag : Bool} [Ty P t sz ag] [IntT P t' .u8] (hx : ev fr x = some (.int kk i)) (h0 : 0 ≤ i) (h1 : i ≤ 255) : Pu P n wr fr O (.convert t t' x) ty (.int .u8 i) := by
 have := Pu_convI (P := P) (n := n) (wr := wr) (O := O) (ty := ty) (t := t) (t' := t') hx
 rwa [show IntKind.u8.wrap i = i from IntWalk.u8_in i ⟨h0, h1⟩] at this
end
theorem Pu_loadRN {P : Program} {n : Nat} {wr : World} {fr : Fr} {O : List It} {ty : TypeId} {t sz e size p m c : Nat} {x : Operand} {A : Option Addr} {xs vs : List Value} {R : List It} [Ty P t sz true] (hx : ev fr x = some (.pointer (some ((adr A).add p))))
  (hp : Pick (.row (.slice A m c) e size m xs) O R) (hv : ∀ j v, vs[j]? = some v → xs[p + j]? = some v) (hl : vs.length = sz) : Pu P n wr fr O (.load t x) ty (.agg vs.toArray) :=
 Pu_loadN hx hl fun w _ hO j v hj => by
  rw [add_of_add]
  exact (row_cell (hO.of hp) (hv j v hj)).2
theorem Pu_indexAddrH {P : Program} {n : Nat} {wr : World} {fr : Fr} {O : List It} {ty : TypeId} {t e sz bytes : Nat} {x ix : Operand} {A : Option Addr} {len cap : Nat} {kk : IntKind} {i : Int} [hE : ElemT P t e sz bytes] (hx : ev fr x = some (.slice A len cap)) (hi : ev fr ix = some (.int kk i))
  (h0 : 0 ≤ i) (h1 : i < len) (hA : ∀ w, Bel wr.heap.size wr w → Holds wr.heap.size O w → A ≠ none) : Pu P n wr fr O (.indexAddr t x ix) ty (.pointer (some ((adr A).add (i.toNat * sz)))) :=
 fun a w hs => Pu_indexAddr hx hi h0 h1 (hA w hs.old hs.own) a w hs
section
variable {P : Program} {n : Nat} {wr : World} {fr : Fr} {O : List It} {ty : TypeId} {pos : String} {af : Array Edge} {dst : Option Tmp} {g : Option (Nat × Bool)} {Kp : Value → List It → Prop}
end
theorem Pu_minI {P : Program} {n : Nat} {wr : World} {fr : Fr} {O : List It} {ty : TypeId} {x y : Operand} {ts : Array TypeId} {k : IntKind} {i j : Int} (hx : ev fr x = some (.int k i)) (hy : ev fr y = some (.int k j)) : Pu P n wr fr O (.call ⟨.builtin .min, #[x, y], ts⟩) ty (.int k (if j < i then j else i)) :=
 fun a w hs _ _ _ _ => by simp [execOp, resolve, invoke, builtin, Builtin.min_, Builtin.min2, hs.sim.ev hx, hs.sim.ev hy]
section
variable {P : Program} {n : Nat} {wr : World} {fr : Fr} {O : List It} {ty : TypeId}
theorem Pu_andW {t t' : TypeId} {x y : Operand} {kk : IntKind} {i j : Int} (hx : ev fr x = some (.int kk i)) (hy : ev fr y = some (.int kk j)) : Pu P n wr fr O (.binOp .and t x y t') ty (.int kk (kk.wrap (BitVec.ofInt kk.bits i &&& BitVec.ofInt kk.bits j).toNat)) :=
 fun a w hs _ _ _ _ => by simp [execOp, hs.sim.ev hx, hs.sim.ev hy, eqGuard, binOp, Op.intBits]
end
theorem Does.monoO {P : Program} {f : FuncId} {args : List Value} {w : World} {R R' : Value → List It → Prop} (h : Does P f args w R) (hr : ∀ v O, R v O → ∃ O', R' v O' ∧ ∀ base w', Holds base O w' → Holds base O' w') : Does P f args w R' :=
 Calls.mono h fun _ _ ⟨v, O, h1, h2, h3, h4⟩ => by
  obtain ⟨O', h5, h6⟩ := hr v O h4
  exact ⟨v, O', h1, h2, h6 _ _ h3, h5⟩
section
variable {P : Program} {n : Nat} {wr : World} {fr : Fr} {O : List It} {ty : TypeId}
theorem Pu_add8 {t t' : TypeId} {x y : Operand} {i j : Int} (hx : ev fr x = some (.int .u8 i)) (hy : ev fr y = some (.int .u8 j)) (h : 0 ≤ i + j ∧ i + j ≤ 255) : Pu P n wr fr O (.binOp .add t x y t') ty (.int .u8 (i + j)) := by
 have := Pu_addW (P := P) (n := n) (wr := wr) (O := O) (ty := ty) (t := t) (t' := t') hx hy
 rwa [IntWalk.u8_in _ h] at this
end
section
variable {P : Program} {n : Nat} {wr : World} {fr : Fr} {O : List It} {ty : TypeId} {pos : String} {af : Array Edge} {dst : Option Tmp} {g : Option (Nat × Bool)} {Kp : Value → List It → Prop}
end
section
variable {P : Program} {n : Nat} {wr : World} {fr : Fr} {O : List It} {ty : TypeId} {pos : String} {af : Array Edge} {dst : Option Tmp} {g : Option (Nat × Bool)} {Kp : Value → List It → Prop}
theorem Pu_loadRF {t sz e size p q m c : Nat} {x : Operand} {A : Option Addr} {xs : List Value} {v : Value} {R : List It} [Ty P t sz false] (hx : ev fr x = some (.pointer (some (((adr A).add p).add q))))
  (hp : Pick (.row (.slice A m c) e size m xs) O R) (hv : xs[p + q]? = some v) : Pu P n wr fr O (.load t x) ty v :=
 Pu_loadR (by rw [← add_of_add]; exact hx) hp hv
end
theorem split_eq (a b : Int) (hb : 0 < b) : (a.tmod b < 0 → a.tdiv b - 1 = a / b ∧ a.tmod b + b = a % b) ∧ (¬ a.tmod b < 0 → a.tdiv b = a / b ∧ a.tmod b = a % b) := by
 have h1 := Int.mul_tdiv_add_tmod a b
 have h2 := Int.tmod_lt_of_pos a hb
 have h3 := Int.lt_tmod_of_pos a hb
 have key : ∀ q r : Int, b * q + r = a → 0 ≤ r → r < b → q = a / b ∧ r = a % b := fun q r h0 h4 h5 => by
  have := (Int.ediv_emod_unique (a := a) (r := r) (q := q) hb).2 ⟨by omega, h4, h5⟩
  exact ⟨this.1.symm, this.2.symm⟩
 constructor
 ·intro h
  exact key _ _ (by rw [Int.mul_sub]; omega) (by omega) (by omega)
 ·intro h
  exact key _ _ h1 (by omega) h2
theorem tmod_zero (a b : Int) : a.tmod b = 0 ↔ a % b = 0 := by rw [← Int.dvd_iff_tmod_eq_zero, ← Int.dvd_iff_emod_eq_zero]
theorem tdiv_bd (a b : Int) : -(a.natAbs : Int) ≤ a.tdiv b ∧ a.tdiv b ≤ a.natAbs := by
 have h1 := Int.natAbs_tdiv_le_natAbs a b
 omega
section
variable {P : Program} {n : Nat} {wr : World} {fr : Fr} {O : List It} {ty : TypeId}
theorem Pu_quoT {t t' : TypeId} {x y : Operand} {i j : Int} (hx : ev fr x = some (.int .i64 i)) (hy : ev fr y = some (.int .i64 j)) (hj : j ≠ 0) (hn : i.natAbs ≤ 9223372036854775807) : Pu P n wr fr O (.binOp .quo t x y t') ty (.int .i64 (i.tdiv j)) := by
 have := Pu_quo (P := P) (n := n) (wr := wr) (O := O) (ty := ty) (t := t) (t' := t') hx hy hj
 have hb := tdiv_bd i j
 rwa [wrap64_id (by omega)] at this
theorem Pu_maxJ {x y : Operand} {ts : Array TypeId} {k : IntKind} {i j : Int} (hx : ev fr x = some (.int k i)) (hy : ev fr y = some (.int k j)) : Pu P n wr fr O (.call ⟨.builtin .max, #[x, y], ts⟩) ty (.int k (if i < j then j else i)) :=
 fun a w hs _ _ _ _ => by simp [execOp, resolve, invoke, builtin, Builtin.max_, Builtin.max2, hs.sim.ev hx, hs.sim.ev hy]
theorem Pu_indexArr {t len e sz : Nat} {ag : Bool} {x ix : Operand} {ad : Addr} {kk : IntKind} {i : Int} [hA : ArrT P t len e sz ag] (hx : ev fr x = some (.pointer (some ad))) (hi : ev fr ix = some (.int kk i)) (h0 : 0 ≤ i) (h1 : i < len) :
  Pu P n wr fr O (.indexAddr t x ix) ty (.pointer (some (ad.add (i.toNat * sz)))) :=
 fun a w hs _ _ _ _ => by
  have h := hA.h
  unfold arrChk at h
  split at h
  ·rename_i len' e' hu
   split at h
   ·rename_i sz' ag' ht
    simp only [Option.some.injEq, Prod.mk.injEq] at h
    obtain ⟨rfl, rfl, rfl, rfl⟩ := h
    obtain ⟨inf, dd, hinf, hsz, _, _⟩ := Ty.parts ht
    simp [execOp, hs.sim.ev hx, hs.sim.ev hi, Instr.indexAt, asIntOf, run_underlying hu, Instr.sureAddr, h0, h1, sizeOf, run_typeInfo hinf, hsz]
   ·cases h
  ·cases h
end
section
variable {P : Program} {n : Nat} {wr : World} {ops : Array Oper} {rest : List Oper} {K : Fr → List It → Prop} {fr : Fr} {O : List It} {ty : TypeId} {pos : String} {af : Array Edge}
theorem RL_und {d' : Nat} {op : Op} {j : Nat} {b : Bool} {oj : Oper} {d : Nat} (hj : ops[j]? = some oj) (hd : oj.dst = some d) (hb : look fr d = some undef) (hdn : Nat.ble (d' + 1) n = true)
  (k : RL P n wr ops rest K ((d', undef) :: fr) O) : RL P n wr ops (⟨some d', op, ty, pos, af, some (j, b)⟩ :: rest) K fr O := by
 intro a w hs
 have := k (a.put (some d') undef) w ⟨hs.sim.put hdn undef, hs.old, hs.own⟩
 have hw : Region.wanted (⟨some d', op, ty, pos, af, some (j, b)⟩ : Oper) (yielded ops a.tmps) = false := by
  have hy : yielded ops a.tmps j = none := by simp [yielded, hj, hd, hs.sim.at_ d _ hb, undef]
  simp only [Region.wanted, hy]
  cases b <;> rfl
 simp only [wpList, hw]
 exact this
end
end Go.Wk
