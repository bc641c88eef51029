/- Parts of the proof. -/
import Derived.Test.YtdlmhmmhdbbliaaGreatDoorV05
import Derived.Test.YtdlmhmmhdbbliaaGreatDoorProg
set_option maxHeartbeats 4000000
set_option linter.unusedVariables false
set_option linter.unusedSimpArgs false
namespace Go.Wk
open Go Go.RowKit
structure Hold (p:Prop):Prop where
 out:p
theorem NfA {l l':List Value}(h:Nf l l':=by repeat (first|exact Go.Wk.Nf.nil|apply Go.Wk.Nf.cons)):Nf l l':=h
theorem SFA {a b:Fr}(h:Sub a b:=by repeat (first|exact trivial|refine⟨rfl,?_⟩)):Sub a b:=h
theorem SOA {a b:List It}(h:SubO a b:=by first|exact .refl _|(repeat (first|exact Go.Wk.SubO.nil|(apply Go.Wk.SubO.cons;focus repeat' constructor)))):SubO a b:=h
theorem STA {a b:List It}(h:SubO a b:=by repeat (first|exact Go.Wk.SubO.nil|(apply Go.Wk.SubO.cons;(focus repeat' constructor))|exact .refl _|apply Go.Wk.SubO.drop)):SubO a b:=h
theorem stA {G G':Prop}(k:G')(h:Hold G'->G:=by intro k;(first|(apply Go.Wk.Stp_storeNf;rfl;rfl;(focus repeat' constructor);exact Go.Wk.NfA;rfl;rfl;rfl;(focus repeat' constructor))|(apply Go.Wk.Stp_mapUpdate;rfl;rfl;rfl;(focus repeat' constructor)));exact k.out):G:=h ⟨k⟩
theorem OA {p:Prop}(h:p:=by first|omega|(dsimp only;omega)):p:=h
section
variable {P:Program}{n:Nat}{wr:World}{fr:Fr}{O:List It}{ty:TypeId}{pos:String}{af:Array Edge}{f:FuncId}{xs:List Operand}{ts:Array TypeId}{us vs cs:List Value}{dst:Option Tmp}{g:Option (Nat × Bool)}{x:Value}{gx:Operand}{Kp:Value->List It->Prop}[Body P f]
theorem Za1 (h:∀ w,Bel wr.heap.size wr w->Zay wr.heap.size O w->Does P f vs w (fun v O=>v=x/\O=[]))(k:Kp x ([]++O))(hx:evsO fr xs=some vs:=by rfl):Stp P n wr fr O ⟨dst,.call ⟨.value (.func f),xs.toArray,ts⟩,ty,pos,af,g⟩ Kp :=
 Zag hx h (by rintro v O' ⟨rfl,rfl⟩;exact k)
theorem Zac (h:∀ w,Bel wr.heap.size wr w->Does P f vs w (fun v O=>v=x/\O=[]))(k:Kp x ([]++O))(hx:evsO fr xs=some vs:=by rfl):Stp P n wr fr O ⟨dst,.call ⟨.value (.func f),xs.toArray,ts⟩,ty,pos,af,g⟩ Kp :=
 Za1 (fun w h1 _=>h w h1) k hx
theorem ZgE (h:∀ w,Bel wr.heap.size wr w->Zay wr.heap.size O w->Does P f (us++vs++cs) w (fun v O=>v=x/\O=[]))(k:Kp x ([]++O))(hg:ev fr gx=some (.func (.func f) us.toArray cs.toArray):=by rfl)(hx:evsO fr xs=some vs:=by rfl):Stp P n wr fr O ⟨dst,.call ⟨.value gx,xs.toArray,ts⟩,ty,pos,af,g⟩ Kp :=
 Zar hg hx h (by rintro v O' ⟨rfl,rfl⟩;exact k)
end
theorem clo1 {G:Prop}(h:G:=by first|(refine Go.Wk.ret_1 _ [] (.tmp rfl) .nil ⟨?_,rfl⟩;first|rfl|(simp only[*,Bool.true_and,Bool.false_and,Bool.true_or,Bool.false_or,Bool.not_true,Bool.not_false];done)|(simp_all;done)|(simp_all;omega)|(simp_all;rw[Bool.eq_iff_iff];simp;omega))|(exfalso;simp_all;done)|(exfalso;simp_all;omega)|(exfalso;omega)):G:=h
theorem clo2 {G:Prop}(h:G:=by first|(refine Go.Wk.ret_2 _ _ [] (.tmp rfl) (.tmp rfl) .nil ⟨?_,rfl⟩;first|rfl|(simp only[*,Bool.true_and,Bool.false_and,Bool.true_or,Bool.false_or,Bool.not_true,Bool.not_false];done)|(simp_all;done)|(simp_all;omega)|(simp_all;rw[Bool.eq_iff_iff];simp;omega))|(exfalso;simp_all;done)|(exfalso;simp_all;omega)|(exfalso;omega)):G:=h
theorem rtA {G:Prop}(h:G:=by exact Go.Wk.ret_1 _ [] (.tmp rfl) .nil ⟨rfl,rfl⟩):G:=h
theorem rtB {G:Prop}(h:G:=by exact Go.Wk.ret_2 _ _ [] (.tmp rfl) (.tmp rfl) .nil ⟨rfl,rfl⟩):G:=h
theorem rtC {G:Prop}(h:G:=by exact Go.Wk.ret_2 _ _ [] (.cellB rfl (by repeat' constructor) rfl rfl) (.tmp rfl) .nil ⟨rfl,rfl⟩):G:=h
theorem PuI {G:Prop}(h:G:=by first|(apply Go.Wk.Pu_indexAddr;rfl;rfl;omega;omega;(first|exact hna|exact hnb))|(apply Go.Wk.Pu_loadON;rfl;(first|exact hca|exact hcb);rfl)|(apply Go.Wk.Pu_loadO1';rfl;(first|exact hca|exact hcb);rfl)|(apply Go.Wk.Pu_loadO1;rfl;(first|exact hca 0 _ rfl|exact hcb 0 _ rfl))):G:=h
theorem und {G G':Prop}(k:G')(h:Hold G'->G:=by intro k;exact Go.Wk.RL_und rfl rfl rfl rfl k.out):G:=h ⟨k⟩
theorem RLid {P:Program}{n:Nat}{wr:World}{ops:Array Oper}{rest:List Oper}{K:Fr->List It->Prop}{fr:Fr}{O:List It}(h:RL P n wr ops rest K fr O):RL P n wr ops rest K fr O:=h
theorem bx {G G':Prop}(k:G')(h:Hold G'->G:=by intro k;(first|(apply Go.Wk.Stp_boxNf;rfl;exact Go.Wk.NfA;exact k.out)|(apply Go.Wk.Stp_alloc;exact k.out)|(apply Go.Wk.Stp_buildSlice0;exact k.out)|(apply Go.Wk.Stp_buildSliceC;rfl;rfl;rfl;rfl;exact Go.Wk.NfA;exact k.out)|(apply Go.Wk.Stp_buildSliceNf;rfl;rfl;rfl;exact Go.Wk.NfA;exact k.out)|(apply Go.Wk.Stp_makeMap;exact k.out))):G:=h ⟨k⟩
section
variable {P:Program}{n:Nat}{wr:World}{ops:Array Oper}{rest:List Oper}{K:Fr->List It->Prop}{fr:Fr}{O:List It}{ty:TypeId}{pos:String}{af:Array Edge}{d:Nat}
theorem PuA {op:Op}{v:Value}(h:Pu P n wr fr O op ty v:=by(first|(apply Go.Wk.Pu_move;rfl)|(apply Go.Wk.Pu_assign;rfl)|(apply Go.Wk.Pu_pickT;rfl;rfl)|(apply Go.Wk.Pu_pickF;rfl;rfl)|(apply Go.Wk.Pu_fieldAddr0;rfl)|(apply Go.Wk.Pu_fieldAddr;rfl)|(apply Go.Wk.Pu_loadNf;rfl;(focus repeat' constructor);exact Go.Wk.NfA;rfl)|(apply Go.Wk.Pu_loadB1;rfl;(focus repeat' constructor);rfl)|(apply Go.Wk.Pu_field1;rfl;rfl)|(apply Go.Wk.Pu_fieldNf;rfl;exact Go.Wk.NfA)|(apply Go.Wk.Pu_extract;rfl;rfl)|(apply Go.Wk.Pu_buildNf;rfl;rfl;exact Go.Wk.NfA)|(apply Go.Wk.Pu_nilCheck;rfl)|(apply Go.Wk.Pu_nilCheckF;rfl)|(apply Go.Wk.Pu_makeFunc;rfl;rfl)|(apply Go.Wk.Pu_lookup;rfl;rfl;(focus repeat' constructor))|(apply Go.Wk.Pu_lookupOk;rfl;rfl;(focus repeat' constructor))|(apply Go.Wk.Pu_not;rfl)|(apply Go.Wk.Pu_negW;rfl)|(apply Go.Wk.Pu_conv64;rfl;(constructor <;> omega))|(apply Go.Wk.Pu_convI;rfl)|(apply Go.Wk.Pu_lss;rfl;rfl)|(apply Go.Wk.Pu_leq;rfl;rfl)|(apply Go.Wk.Pu_gtr;rfl;rfl)|(apply Go.Wk.Pu_geq;rfl;rfl)|(apply Go.Wk.Pu_eql;rfl;rfl)|(apply Go.Wk.Pu_neq;rfl;rfl)|(apply Go.Wk.Pu_remE;rfl;rfl;omega;omega)|(apply Go.Wk.Pu_rem;rfl;rfl;(first|decide|omega))|(apply Go.Wk.Pu_quo8;rfl;rfl;omega;omega;omega)|(apply Go.Wk.Pu_quo16;rfl;rfl;omega;omega;omega)|(apply Go.Wk.Pu_quo64;rfl;rfl;omega;omega;omega)|(apply Go.Wk.Pu_quo;rfl;rfl;(first|decide|omega))|(apply Go.Wk.Pu_loadLit;rfl;(focus repeat' constructor);rfl;(simp only[Go.Wk.lay_length,Go.Wk.sliceZ_len,List.length_cons,List.length_nil];omega))|(apply Go.Wk.Pu_indexAddr;rfl;rfl;omega;omega;nofun)|(apply Go.Wk.Pu_add;rfl;rfl;(constructor <;> omega))|(apply Go.Wk.Pu_sub';rfl;rfl;(constructor <;> omega))|(apply Go.Wk.Pu_eqlS;rfl;rfl)|(apply Go.Wk.Pu_neqS;rfl;rfl)|(apply Go.Wk.Pu_lssS;rfl;rfl)|(apply Go.Wk.Pu_eqB;rfl;rfl)|(apply Go.Wk.Pu_neqB;rfl;rfl)|(apply Go.Wk.Pu_eqNil;rfl)|(apply Go.Wk.Pu_sliceH;rfl;rfl;omega;omega)|(apply Go.Wk.Pu_capL;rfl)|(apply Go.Wk.Pu_lenL;rfl)|(apply Go.Wk.Pu_lenS;rfl)|(apply Go.Wk.Pu_lenMap;rfl;(focus repeat' constructor))|(apply Go.Wk.Pu_eqlE;rfl;rfl)|(apply Go.Wk.Pu_neqE;rfl;rfl))):Pu P n wr fr O op ty v:=h
theorem QyA {o:Oper}{v:Value}(h:Qy P n wr ops fr O o v:=by(first|(apply Go.Wk.Qy_y;rfl;exact Go.Wk.PuA)|(apply Go.Wk.Qy_n;rfl))):Qy P n wr ops fr O o v:=h
theorem QFA {V:List Qp}(h:QF P n wr ops fr O V:=by repeat (first|exact Go.Wk.QF.nil|(apply Go.Wk.QF.mk;rfl;rfl;decide +kernel;exact Go.Wk.QyA))):QF P n wr ops fr O V:=h
theorem QyI {G:Prop}(h:G:=by first|(apply Go.Wk.Qy_y;rfl;exact Go.Wk.PuI)|exact Go.Wk.QyA):G:=h
theorem QFI {G:Prop}(h:G:=by repeat (first|exact Go.Wk.QF.nil|(apply Go.Wk.QF.mk;rfl;rfl;decide +kernel;exact Go.Wk.QyI))):G:=h
theorem walk1 {G G':Prop}(k:G')(h:Hold G'->G:=by intro k;(first|(apply Go.Wk.RL_pu;rfl;exact Go.Wk.PuA)|(apply Go.Wk.RL_st0;refine Go.Wk.stA ?_)|apply Go.Wk.W_seq|apply Go.Wk.W_region|apply Go.Wk.RL_nil|apply Go.Wk.thenQ_n|apply Go.Wk.W_block|apply Go.Wk.W_skip|apply Go.Wk.W_ret|apply Go.Wk.W_exit|apply Go.Wk.thenQ_r|apply Go.Wk.thenQ_e|apply Go.Wk.blockQ_n|apply Go.Wk.blockQ_r|apply Go.Wk.blockQ_hit|(apply Go.Wk.blockQ_miss;rfl)|(apply Go.Wk.W_true;rfl)|(apply Go.Wk.W_false;rfl)|(apply Go.Wk.RL_yes;rfl;rfl;rfl)|(apply Go.Wk.RL_no;rfl;rfl;rfl;rfl;rfl)|(apply Go.Wk.W_draw;rfl;decide +kernel)|apply Go.Wk.RD_done|(apply Go.Wk.RD_Q;rfl;rfl;decide +kernel;rfl;rfl;exact Go.Wk.QyA)|(apply Go.Wk.RD_N;rfl;rfl;decide +kernel;rfl;rfl;rfl)|(apply Go.Wk.RD_A;rfl;rfl;decide +kernel;rfl;rfl;first|exact Go.Wk.Ay_alloc|exact Go.Wk.Ay_buildSlice0|(apply Go.Wk.Ay_buildSliceC;rfl;rfl;rfl;rfl;exact Go.Wk.NfA)|(apply Go.Wk.Ay_buildSliceNf;rfl;rfl;rfl;exact Go.Wk.NfA)));exact k.out):G:=h ⟨k⟩
theorem walk {G G':Prop}(k:G')(h:Hold G'->G:=by intro k;refine Go.Wk.walk1 ?_;(repeat refine Go.Wk.walk1 ?_);exact k.out):G:=h ⟨k⟩
theorem walk0a {G G':Prop}(k:G')(h:Hold G'->G:=by intro k;(first|(apply Go.Wk.RL_pu;rfl;exact Go.Wk.PuA)|(apply Go.Wk.RL_st0;refine Go.Wk.stA ?_)|apply Go.Wk.W_seq|apply Go.Wk.W_region|apply Go.Wk.RL_nil|apply Go.Wk.thenQ_n|apply Go.Wk.W_block|apply Go.Wk.W_skip|apply Go.Wk.W_ret|apply Go.Wk.W_exit|apply Go.Wk.thenQ_r|apply Go.Wk.thenQ_e|apply Go.Wk.blockQ_n|apply Go.Wk.blockQ_r|apply Go.Wk.blockQ_hit|(apply Go.Wk.blockQ_miss;rfl)|(apply Go.Wk.W_true;rfl)|(apply Go.Wk.W_false;rfl)|(apply Go.Wk.RL_yes;rfl;rfl;rfl)|(apply Go.Wk.RL_no;rfl;rfl;rfl;rfl;rfl)|apply Go.Wk.RD_done|(apply Go.Wk.RD_Q;rfl;rfl;decide +kernel;rfl;rfl;exact Go.Wk.QyA)|(apply Go.Wk.RD_N;rfl;rfl;decide +kernel;rfl;rfl;rfl)|(apply Go.Wk.RD_A;rfl;rfl;decide +kernel;rfl;rfl;first|exact Go.Wk.Ay_alloc|exact Go.Wk.Ay_buildSlice0|(apply Go.Wk.Ay_buildSliceC;rfl;rfl;rfl;rfl;exact Go.Wk.NfA)|(apply Go.Wk.Ay_buildSliceNf;rfl;rfl;rfl;exact Go.Wk.NfA)));exact k.out):G:=h ⟨k⟩
theorem Zv2 {G G':Prop}(k:G')(h:Hold G'->G:=by intro k;refine Go.Wk.walk0a ?_;(repeat refine Go.Wk.walk0a ?_);exact k.out):G:=h ⟨k⟩
theorem EndsA {A B C:List It}(h:Ends A B C:=by repeat (first|exact Go.Wk.Ends.nil|apply Go.Wk.Ends.cons|exact Go.Wk.Ends.app)):Ends A B C:=h
theorem RD_Lw {todo:List (Nat × Oper)}{V V':List Qp}{Al:List Ap}{i:Nat}{o:Oper}(hstep:∀ F,Stp P n wr fr (O++F) o fun v O'=>∃ O'',Ends O' F O''/\QF P n wr ops (updF fr o.dst v) O'' V'/\RD P n wr ops todo V' Al K (updF fr o.dst v) O'')
  (hV:Filt ops i V V':=by repeat (first|exact Go.Wk.Filt.nil|(apply Go.Wk.Filt.drop;rfl)|(apply Go.Wk.Filt.dropT;rfl)|(apply Go.Wk.Filt.keep;rfl))) (hok:okL n ops fr ((i,o)::todo) todo o=true:=by rfl) (hal:alOk n fr o.dst Al=true:=by rfl):RD P n wr ops ((i,o)::todo) V Al K fr O:=RD_L hok hal hV hstep
theorem jn {G G':Prop}(k:G')(h:Hold G'->G:=by intro k;(first|(apply Go.Wk.RL_st0;exact k.out)|(apply Go.Wk.RL_st;rfl;exact k.out)|(refine Go.Wk.RD_Lw ?_;exact k.out))):G:=h ⟨k⟩
theorem js {G G':Prop}(k:G')(h:Hold G'->G:=by intro k;(first|(apply Go.Wk.RL_st0;exact k.out)|(apply Go.Wk.RL_st;rfl;exact k.out))):G:=h ⟨k⟩
theorem fin {G G':Prop}(k:G')(h:Hold G'->G:=by intro k;(first|exact⟨_,Go.Wk.EndsA,Go.Wk.QFA,k.out⟩|exact Go.Wk.RLid k.out|exact⟨_,Go.Wk.EndsA,Go.Wk.SubO.right _ _,k.out⟩|(refine⟨_,?_,?_,?_⟩;exact Go.Wk.EndsA;exact .refl _;exact k.out))):G:=h ⟨k⟩
theorem ZAV {todo todo':List (Nat × Oper)}{V V':List Qp}{Al A1:List Ap}{k:Ap}{i:Nat}{o:Oper}(kk:∀ b,RD P n wr ops todo V A1 K ((k.d,k.val b)::fr) (k.it b::O))(hstep:∀ F,Stp P n wr fr (O++F) o fun v O'=>∃ O'',Ends O' F O''/\QF P n wr ops (updF fr o.dst v) O'' V'/\RD P n wr ops todo' V' Al K (updF fr o.dst v) O'')
  (hp:Zfy ops todo Al todo=some ((i,o),todo'):=by rfl) (hks:Zei ops todo [] Al=[(k,A1)]:=by rfl) (hV:Filt ops i V V':=by repeat (first|exact Go.Wk.Filt.nil|(apply Go.Wk.Filt.drop;rfl)|(apply Go.Wk.Filt.dropT;rfl)|(apply Go.Wk.Filt.keep;rfl))) (hok:okK n ops fr todo todo' o [k.i]=true:=by rfl) (hal:alOk n fr o.dst Al=true:=by rfl):RD P n wr ops todo V Al K fr O:=ZBH hp hks hok hal hV kk hstep
theorem ZAU {todo todo':List (Nat × Oper)}{V V':List Qp}{Al A1 A2:List Ap}{k k2:Ap}{i:Nat}{o:Oper}(kk:∀ b,RD P n wr ops todo V A1 K ((k.d,k.val b)::fr) (k.it b::O))(kk2:∀ b,RD P n wr ops todo V A2 K ((k2.d,k2.val b)::fr) (k2.it b::O))(hstep:∀ F,Stp P n wr fr (O++F) o fun v O'=>∃ O'',Ends O' F O''/\QF P n wr ops (updF fr o.dst v) O'' V'/\RD P n wr ops todo' V' Al K (updF fr o.dst v) O'')
  (hp:Zfy ops todo Al todo=some ((i,o),todo'):=by rfl) (hks:Zei ops todo [] Al=[(k,A1),(k2,A2)]:=by rfl) (hV:Filt ops i V V':=by repeat (first|exact Go.Wk.Filt.nil|(apply Go.Wk.Filt.drop;rfl)|(apply Go.Wk.Filt.dropT;rfl)|(apply Go.Wk.Filt.keep;rfl))) (hok:okK n ops fr todo todo' o [k.i,k2.i]=true:=by rfl) (hal:alOk n fr o.dst Al=true:=by rfl):RD P n wr ops todo V Al K fr O:=ZBG hp hks hok hal hV kk kk2 hstep
theorem Ze0 {todo todo':List (Nat × Oper)}{V V':List Qp}{Al:List Ap}{i:Nat}{o:Oper}(hstep:∀ F,Stp P n wr fr (O++F) o fun v O'=>∃ O'',Ends O' F O''/\SubO O O''/\RD P n wr ops todo' V' Al K ((d,v)::fr) O'')(hp:Zfy ops todo Al todo=some ((i,o),todo'):=by rfl)(hd:o.dst=some d:=by rfl)(hks:Zei ops todo [] Al=[]:=by rfl)(hV:Filt ops i V V':=by repeat (first|exact Go.Wk.Filt.nil|(apply Go.Wk.Filt.drop;rfl)|(apply Go.Wk.Filt.dropT;rfl)|(apply Go.Wk.Filt.keep;rfl)))(hok:okG n ops fr todo todo' o d Al []=true:=by rfl):RD P n wr ops todo V Al K fr O:=ZAY hp hd hks hok hV hstep
theorem RD_G0c {todo todo':List (Nat × Oper)}{V V':List Qp}{Al:List Ap}{i:Nat}{dst:Option Tmp}{gx:Operand}{xs:Array Operand}{ts:Array TypeId}{ty:TypeId}{pos:String}{af:Array Edge}{g:Option (Nat × Bool)}(hstep:∀ F,Stp P n wr fr (O++F) ⟨dst,.call ⟨.value gx,xs,ts⟩,ty,pos,af,g⟩ fun v O'=>∃ O'',Ends O' F O''/\SubO O O''/\RD P n wr ops todo' V' Al K ((d,v)::fr) O'')(hp:Zfy ops todo Al todo=some ((i,⟨dst,.call ⟨.value gx,xs,ts⟩,ty,pos,af,g⟩),todo'):=by rfl)(hd:dst=some d:=by rfl)(hks:Zei ops todo [] Al=[]:=by rfl)(hV:Filt ops i V V':=by repeat (first|exact Go.Wk.Filt.nil|(apply Go.Wk.Filt.drop;rfl)|(apply Go.Wk.Filt.dropT;rfl)|(apply Go.Wk.Filt.keep;rfl)))(hok:okG n ops fr todo todo' ⟨dst,.call ⟨.value gx,xs,ts⟩,ty,pos,af,g⟩ d Al []=true:=by rfl):RD P n wr ops todo V Al K fr O:=ZAY hp hd hks hok hV hstep
theorem jg {G G':Prop}(k:G')(h:Hold G'->G:=by intro k;(first|(apply Go.Wk.RL_st0;exact k.out)|(apply Go.Wk.RL_st;rfl;exact k.out)|(refine Go.Wk.RD_Lw ?_;exact k.out)|(refine Go.Wk.RD_G0c ?_;exact k.out))):G:=h ⟨k⟩
theorem ZAX {todo todo':List (Nat × Oper)}{V V':List Qp}{Al A1:List Ap}{k:Ap}{i:Nat}{o:Oper}(kk:∀ b,RD P n wr ops todo V A1 K ((k.d,k.val b)::fr) (k.it b::O))(hstep:∀ F,Stp P n wr fr (O++F) o fun v O'=>∃ O'',Ends O' F O''/\SubO O O''/\RD P n wr ops todo' V' Al K ((d,v)::fr) O'')(hp:Zfy ops todo Al todo=some ((i,o),todo'):=by rfl)(hd:o.dst=some d:=by rfl)(hks:Zei ops todo [] Al=[(k,A1)]:=by rfl)(hV:Filt ops i V V':=by repeat (first|exact Go.Wk.Filt.nil|(apply Go.Wk.Filt.drop;rfl)|(apply Go.Wk.Filt.dropT;rfl)|(apply Go.Wk.Filt.keep;rfl)))(hok:okG n ops fr todo todo' o d Al [k.i]=true:=by rfl):RD P n wr ops todo V Al K fr O:=ZBK hp hd hks hok hV kk hstep
theorem ZAW {todo todo':List (Nat × Oper)}{V V':List Qp}{Al A1 A2:List Ap}{k k2:Ap}{i:Nat}{o:Oper}(kk:∀ b,RD P n wr ops todo V A1 K ((k.d,k.val b)::fr) (k.it b::O))(kk2:∀ b,RD P n wr ops todo V A2 K ((k2.d,k2.val b)::fr) (k2.it b::O))(hstep:∀ F,Stp P n wr fr (O++F) o fun v O'=>∃ O'',Ends O' F O''/\SubO O O''/\RD P n wr ops todo' V' Al K ((d,v)::fr) O'')(hp:Zfy ops todo Al todo=some ((i,o),todo'):=by rfl)(hd:o.dst=some d:=by rfl)(hks:Zei ops todo [] Al=[(k,A1),(k2,A2)]:=by rfl)(hV:Filt ops i V V':=by repeat (first|exact Go.Wk.Filt.nil|(apply Go.Wk.Filt.drop;rfl)|(apply Go.Wk.Filt.dropT;rfl)|(apply Go.Wk.Filt.keep;rfl)))(hok:okG n ops fr todo todo' o d Al [k.i,k2.i]=true:=by rfl):RD P n wr ops todo V Al K fr O:=ZBJ hp hd hks hok hV kk kk2 hstep
end
end Go.Wk
namespace Go.Proofs.YtdlmhmmhdbbliaaGreatDoor
open Go Go.Wk
instance : Ty Tryz.prog 2 1 false:={}
instance : ZeroT Tryz.prog 2 [.int .i64 0]:={}
instance : IntT Tryz.prog 2 .i64:={}
instance : Ty Tryz.prog 3 1 false:={}
instance : ZeroT Tryz.prog 3 [.int .i64 0]:={}
instance : ZeroV Tryz.prog 3 (.int .i64 0):={}
instance : IntT Tryz.prog 3 .i64:={}
instance : Ty Tryz.prog 4 1 false:={}
instance : ZeroT Tryz.prog 4 [.bool false]:={}
instance : ZeroV Tryz.prog 4 (.bool false):={}
instance : BoolT Tryz.prog 4:={}
instance : Ty Tryz.prog 5 1 false:={}
instance : ZeroT Tryz.prog 5 [.int .u8 0]:={}
instance : IntT Tryz.prog 5 .u8:={}
instance : Ty Tryz.prog 9 1 false:={}
instance : ZeroT Tryz.prog 9 [.string ByteArray.empty]:={}
instance : StringT Tryz.prog 9:={}
instance : Ty Tryz.prog 22 1 false:={}
instance : ElemT Tryz.prog 22 61 1 24:={}
instance : Ty Tryz.prog 23 1 false:={}
instance : ElemZ Tryz.prog 23 64 1 24:={}
instance : ElemT Tryz.prog 23 64 1 24:={}
instance : Ty Tryz.prog 24 1 false:={}
instance : ElemZ Tryz.prog 24 5 1 1:={}
instance : ElemT Tryz.prog 24 5 1 1:={}
instance : Ty Tryz.prog 26 3 true:={}
instance : FieldAt Tryz.prog 26 0 0 1 false:={}
instance : FieldAt Tryz.prog 26 1 1 1 false:={}
instance : FieldAt Tryz.prog 26 2 2 1 false:={}
instance : Ty Tryz.prog 27 1 false:={}
instance : ElemZ Tryz.prog 27 82 11 104:={}
instance : ZeroV Tryz.prog 27 (.slice none 0 0):={}
instance : ElemT Tryz.prog 27 82 11 104:={}
instance : Ty Tryz.prog 28 1 false:={}
instance : ElemZ Tryz.prog 28 50 2 40:={}
instance : ElemT Tryz.prog 28 50 2 40:={}
instance : Ty Tryz.prog 29 1 false:={}
instance : ElemZ Tryz.prog 29 78 2 32:={}
instance : ElemT Tryz.prog 29 78 2 32:={}
instance : Ty Tryz.prog 30 1 false:={}
instance : ElemZ Tryz.prog 30 9 1 16:={}
instance : ElemT Tryz.prog 30 9 1 16:={}
instance : Ty Tryz.prog 32 4 true:={}
instance : FieldAt Tryz.prog 32 0 0 1 false:={}
instance : FieldAt Tryz.prog 32 1 1 1 false:={}
instance : FieldAt Tryz.prog 32 2 2 1 false:={}
instance : FieldAt Tryz.prog 32 3 3 1 false:={}
instance : LayT Tryz.prog 32 [(0,1),(1,1),(2,1),(3,1)]:={}
instance : ZeroT Tryz.prog 32 [.slice none 0 0,.slice none 0 0,.slice none 0 0,.slice none 0 0]:={}
instance : Ty Tryz.prog 34 1 false:={}
instance : Ty Tryz.prog 39 5 true:={}
instance : FieldAt Tryz.prog 39 0 0 1 false:={}
instance : FieldAt Tryz.prog 39 1 1 1 false:={}
instance : FieldAt Tryz.prog 39 2 2 1 false:={}
instance : FieldAt Tryz.prog 39 3 3 1 false:={}
instance : FieldAt Tryz.prog 39 4 4 1 false:={}
instance : LayT Tryz.prog 39 [(0,1),(1,1),(2,1),(3,1),(4,1)]:={}
instance : ZeroT Tryz.prog 39 [.int .i64 0,.int .i64 0,.int .i64 0,.int .i64 0,.int .i64 0]:={}
instance : Ty Tryz.prog 41 14 true:={}
instance : FieldAt Tryz.prog 41 0 0 1 false:={}
instance : FieldAt Tryz.prog 41 1 1 1 false:={}
instance : FieldAt Tryz.prog 41 2 2 1 false:={}
instance : FieldAt Tryz.prog 41 3 3 1 false:={}
instance : FieldAt Tryz.prog 41 4 4 5 true:={}
instance : FieldAt Tryz.prog 41 5 9 5 true:={}
instance : LayT Tryz.prog 41 [(0,1),(1,1),(2,1),(3,1),(4,5),(9,5)]:={}
instance : ZeroT Tryz.prog 41 [.string ByteArray.empty,.int .i64 0,.string ByteArray.empty,.int .i64 0,.int .i64 0,.int .i64 0,.int .i64 0,.int .i64 0,.int .i64 0,.int .i64 0,.int .i64 0,.int .i64 0,.int .i64 0,.int .i64 0]:={}
instance : Ty Tryz.prog 45 3 true:={}
instance : LayT Tryz.prog 45 [(0,1),(1,1),(2,1)]:={}
instance : ZeroT Tryz.prog 45 [.int .i64 0,.bool false,.string ByteArray.empty]:={}
instance : Ty Tryz.prog 48 1 false:={}
instance : ElemZ Tryz.prog 48 75 13 120:={}
instance : ElemT Tryz.prog 48 75 13 120:={}
instance : Ty Tryz.prog 50 2 true:={}
instance : FieldAt Tryz.prog 50 0 0 1 false:={}
instance : FieldAt Tryz.prog 50 1 1 1 false:={}
instance : LayT Tryz.prog 50 [(0,1),(1,1)]:={}
instance : ZeroT Tryz.prog 50 [.string ByteArray.empty,.slice none 0 0]:={}
instance : Ty Tryz.prog 54 1 false:={}
instance : Ty Tryz.prog 55 1 false:={}
instance : Ty Tryz.prog 61 1 false:={}
instance : ElemT Tryz.prog 61 5 1 1:={}
instance : Ty Tryz.prog 64 1 false:={}
instance : ZeroT Tryz.prog 64 [.slice none 0 0]:={}
instance : ElemZ Tryz.prog 64 67 8 8:={}
instance : ElemT Tryz.prog 64 67 8 8:={}
instance : Ty Tryz.prog 65 1 false:={}
instance : Ty Tryz.prog 67 8 true:={}
instance : FieldAt Tryz.prog 67 0 0 1 false:={}
instance : FieldAt Tryz.prog 67 1 1 1 false:={}
instance : FieldAt Tryz.prog 67 2 2 1 false:={}
instance : FieldAt Tryz.prog 67 3 3 1 false:={}
instance : FieldAt Tryz.prog 67 4 4 1 false:={}
instance : FieldAt Tryz.prog 67 5 5 1 false:={}
instance : FieldAt Tryz.prog 67 6 6 1 false:={}
instance : FieldAt Tryz.prog 67 7 7 1 false:={}
instance : LayT Tryz.prog 67 [(0,1),(1,1),(2,1),(3,1),(4,1),(5,1),(6,1),(7,1)]:={}
instance : ZeroT Tryz.prog 67 [.int .u8 0,.int .u8 0,.int .u8 0,.int .u8 0,.int .u8 0,.int .u8 0,.int .i8 0,.int .i8 0]:={}
instance : Ty Tryz.prog 69 3 true:={}
instance : FieldAt Tryz.prog 69 0 0 1 false:={}
instance : FieldAt Tryz.prog 69 1 1 1 false:={}
instance : FieldAt Tryz.prog 69 2 2 1 false:={}
instance : LayT Tryz.prog 69 [(0,1),(1,1),(2,1)]:={}
instance : ZeroT Tryz.prog 69 [.int .i64 0,.int .i64 0,.int .i64 0]:={}
instance : Ty Tryz.prog 71 2 true:={}
instance : FieldAt Tryz.prog 71 0 0 1 false:={}
instance : FieldAt Tryz.prog 71 1 1 1 false:={}
instance : LayT Tryz.prog 71 [(0,1),(1,1)]:={}
instance : ZeroT Tryz.prog 71 [.int .i64 0,.int .i64 0]:={}
instance : Ty Tryz.prog 73 8 true:={}
instance : FieldAt Tryz.prog 73 0 0 1 false:={}
instance : FieldAt Tryz.prog 73 1 1 1 false:={}
instance : FieldAt Tryz.prog 73 2 2 1 false:={}
instance : FieldAt Tryz.prog 73 3 3 3 true:={}
instance : FieldAt Tryz.prog 73 4 6 2 true:={}
instance : LayT Tryz.prog 73 [(0,1),(1,1),(2,1),(3,3),(6,2)]:={}
instance : ZeroT Tryz.prog 73 [.bool false,.int .i64 0,.int .i64 0,.int .i64 0,.int .i64 0,.int .i64 0,.int .i64 0,.int .i64 0]:={}
instance : Ty Tryz.prog 75 13 true:={}
instance : FieldAt Tryz.prog 75 0 0 1 false:={}
instance : FieldAt Tryz.prog 75 1 1 1 false:={}
instance : FieldAt Tryz.prog 75 2 2 1 false:={}
instance : FieldAt Tryz.prog 75 3 3 1 false:={}
instance : FieldAt Tryz.prog 75 4 4 1 false:={}
instance : FieldAt Tryz.prog 75 5 5 8 true:={}
instance : LayT Tryz.prog 75 [(0,1),(1,1),(2,1),(3,1),(4,1),(5,8)]:={}
instance : ZeroT Tryz.prog 75 [.int .i64 0,.int .i64 0,.int .i64 0,.string ByteArray.empty,.string ByteArray.empty,.bool false,.int .i64 0,.int .i64 0,.int .i64 0,.int .i64 0,.int .i64 0,.int .i64 0,.int .i64 0]:={}
instance : Ty Tryz.prog 78 2 true:={}
instance : FieldAt Tryz.prog 78 0 0 1 false:={}
instance : FieldAt Tryz.prog 78 1 1 1 false:={}
instance : LayT Tryz.prog 78 [(0,1),(1,1)]:={}
instance : ZeroT Tryz.prog 78 [.string ByteArray.empty,.string ByteArray.empty]:={}
instance : Ty Tryz.prog 82 11 true:={}
instance : FieldAt Tryz.prog 82 0 0 1 false:={}
instance : FieldAt Tryz.prog 82 1 1 1 false:={}
instance : FieldAt Tryz.prog 82 2 2 1 false:={}
instance : FieldAt Tryz.prog 82 3 3 1 false:={}
instance : FieldAt Tryz.prog 82 4 4 3 true:={}
instance : FieldAt Tryz.prog 82 5 7 2 true:={}
instance : FieldAt Tryz.prog 82 6 9 1 false:={}
instance : FieldAt Tryz.prog 82 7 10 1 false:={}
instance : LayT Tryz.prog 82 [(0,1),(1,1),(2,1),(3,1),(4,3),(7,2),(9,1),(10,1)]:={}
instance : ZeroT Tryz.prog 82 [.string ByteArray.empty,.int .i64 0,.int .i64 0,.int .i64 0,.int .i64 0,.int .i64 0,.int .i64 0,.int .i64 0,.int .i64 0,.int .i64 0,.string ByteArray.empty]:={}
instance : ArrT Tryz.prog 87 12 2 1 false:={}
instance : Ty Tryz.prog 92 3 true:={}
instance : FieldAt Tryz.prog 92 0 0 1 false:={}
instance : FieldAt Tryz.prog 92 1 1 1 false:={}
instance : FieldAt Tryz.prog 92 2 2 1 false:={}
instance : LayT Tryz.prog 92 [(0,1),(1,1),(2,1)]:={}
instance : ZeroT Tryz.prog 92 [.int .i64 0,.int .i64 0,.int .i64 0]:={}
instance : Ty Tryz.prog 100 2 true:={}
instance : FieldAt Tryz.prog 100 0 0 1 false:={}
instance : FieldAt Tryz.prog 100 1 1 1 false:={}
instance : LayT Tryz.prog 100 [(0,1),(1,1)]:={}
instance : ZeroT Tryz.prog 100 [.int .i64 0,.bool false]:={}
instance : ElemZ Tryz.prog 103 100 2 16:={}
instance : ElemT Tryz.prog 103 100 2 16:={}
instance : Ty Tryz.prog 111 1 false:={}
instance : FieldAt Tryz.prog 118 0 0 1 false:={}
instance : FieldAt Tryz.prog 118 1 1 1 false:={}
instance : LayT Tryz.prog 118 [(0,1),(1,1)]:={}
instance : ZeroT Tryz.prog 118 [.string ByteArray.empty,.bool false]:={}
instance : ElemZ Tryz.prog 124 2 1 8:={}
instance : ElemT Tryz.prog 124 2 1 8:={}
instance : Ty Tryz.prog 131 3 true:={}
instance : FieldAt Tryz.prog 131 2 2 1 false:={}
instance : LayT Tryz.prog 131 [(0,1),(1,1),(2,1)]:={}
instance : ZeroT Tryz.prog 131 [.int .i64 0,.int .i64 0,.int .i64 0]:={}
instance : ElemZ Tryz.prog 143 147 3 24:={}
instance : ElemT Tryz.prog 143 147 3 24:={}
instance : Ty Tryz.prog 147 3 true:={}
instance : FieldAt Tryz.prog 147 0 0 1 false:={}
instance : FieldAt Tryz.prog 147 1 1 1 false:={}
instance : FieldAt Tryz.prog 147 2 2 1 false:={}
instance : LayT Tryz.prog 147 [(0,1),(1,1),(2,1)]:={}
instance : ZeroT Tryz.prog 147 [.int .i64 0,.int .i64 0,.int .i64 0]:={}
instance : Ty Tryz.prog 151 2 true:={}
instance : FieldAt Tryz.prog 151 0 0 1 false:={}
instance : FieldAt Tryz.prog 151 1 1 1 false:={}
instance : LayT Tryz.prog 151 [(0,1),(1,1)]:={}
instance : ZeroT Tryz.prog 151 [.int .i64 0,.string ByteArray.empty]:={}
instance : Ty Tryz.prog 152 1 false:={}
instance : ArrT Tryz.prog 153 3 152 1 false:={}
instance : Ty Tryz.prog 161 1 false:={}
instance : ArrT Tryz.prog 162 5 161 1 false:={}
instance : ElemZ Tryz.prog 170 69 3 24:={}
instance : ElemT Tryz.prog 170 69 3 24:={}
instance : Ty Tryz.prog 173 4 true:={}
instance : FieldAt Tryz.prog 173 0 0 4 true:={}
instance : LayT Tryz.prog 173 [(0,4)]:={}
instance : ZeroT Tryz.prog 173 [.slice none 0 0,.slice none 0 0,.slice none 0 0,.slice none 0 0]:={}
instance : Ty Tryz.prog 174 1 false:={}
instance : ElemZ Tryz.prog 175 174 1 8:={}
instance : ElemT Tryz.prog 175 174 1 8:={}
instance : Ty Tryz.prog 179 1 false:={}
instance : MapT Tryz.prog 179 9 27:={}
instance : Ty Tryz.prog 181 5 true:={}
instance : FieldAt Tryz.prog 181 0 0 4 true:={}
instance : FieldAt Tryz.prog 181 1 4 1 false:={}
instance : LayT Tryz.prog 181 [(0,4),(4,1)]:={}
instance : ZeroT Tryz.prog 181 [.slice none 0 0,.slice none 0 0,.slice none 0 0,.slice none 0 0,.map none]:={}
instance : Ty Tryz.prog 192 1 false:={}
instance : Ty Tryz.prog 194 3 true:={}
instance : FieldAt Tryz.prog 194 0 0 1 false:={}
instance : FieldAt Tryz.prog 194 1 1 1 false:={}
instance : FieldAt Tryz.prog 194 2 2 1 false:={}
instance : ZeroT Tryz.prog 194 [.bool false,.bool false,.nilFunc]:={}
instance : ArrT Tryz.prog 195 5 194 3 true:={}
instance : Ty Tryz.prog 208 3 true:={}
instance : ArrT Tryz.prog 208 3 2 1 false:={}
instance : ZeroT Tryz.prog 208 [.int .i64 0,.int .i64 0,.int .i64 0]:={}
instance : Ty Tryz.prog 216 1 false:={}
instance : IntT Tryz.prog 216 .u64:={}
instance : ElemZ Tryz.prog 232 3 1 8:={}
instance : ElemT Tryz.prog 232 3 1 8:={}
instance : MapT Tryz.prog 235 9 3:={}
instance : MapT Tryz.prog 257 9 4:={}
instance : Ty Tryz.prog 258 1 false:={}
instance : Ty Tryz.prog 260 2 true:={}
instance : FieldAt Tryz.prog 260 0 0 1 false:={}
instance : FieldAt Tryz.prog 260 1 1 1 false:={}
instance : ZeroT Tryz.prog 260 [.nilFunc,.int .i64 0]:={}
instance : Ty Tryz.prog 261 12 true:={}
instance : ArrT Tryz.prog 261 6 260 2 true:={}
instance : ElemZ Tryz.prog 264 92 3 24:={}
instance : ElemT Tryz.prog 264 92 3 24:={}
instance : ElemZ Tryz.prog 272 151 2 24:={}
instance : ElemT Tryz.prog 272 151 2 24:={}
instance : MapT Tryz.prog 278 280 3:={}
instance : LayT Tryz.prog 280 [(0,1),(1,1)]:={}
instance : ZeroT Tryz.prog 280 [.int .i64 0,.string ByteArray.empty]:={}
instance : Ty Tryz.prog 283 256 true:={}
instance : ArrT Tryz.prog 283 256 5 1 false:={}
instance : Body Tryz.prog 5:={}
instance : Body Tryz.prog 6:={}
instance : Body Tryz.prog 7:={}
instance : Body Tryz.prog 8:={}
instance : Body Tryz.prog 9:={}
instance : Body Tryz.prog 10:={}
instance : Body Tryz.prog 11:={}
instance : Body Tryz.prog 12:={}
instance : Body Tryz.prog 13:={}
instance : Body Tryz.prog 14:={}
instance : Body Tryz.prog 15:={}
instance : Body Tryz.prog 16:={}
instance : Body Tryz.prog 17:={}
instance : Body Tryz.prog 18:={}
instance : Body Tryz.prog 19:={}
instance : Body Tryz.prog 20:={}
instance : Body Tryz.prog 21:={}
instance : Body Tryz.prog 22:={}
instance : Body Tryz.prog 23:={}
instance : Body Tryz.prog 24:={}
instance : Body Tryz.prog 25:={}
instance : Body Tryz.prog 26:={}
instance : Body Tryz.prog 27:={}
instance : Body Tryz.prog 28:={}
instance : Body Tryz.prog 29:={}
instance : Body Tryz.prog 30:={}
instance : Body Tryz.prog 31:={}
instance : Body Tryz.prog 32:={}
instance : Body Tryz.prog 33:={}
instance : Body Tryz.prog 34:={}
instance : Body Tryz.prog 35:={}
instance : Body Tryz.prog 36:={}
instance : Body Tryz.prog 37:={}
instance : Body Tryz.prog 38:={}
instance : Body Tryz.prog 39:={}
instance : Body Tryz.prog 40:={}
instance : Body Tryz.prog 41:={}
instance : Body Tryz.prog 42:={}
instance : Body Tryz.prog 43:={}
instance : Body Tryz.prog 44:={}
instance : Body Tryz.prog 45:={}
instance : Body Tryz.prog 46:={}
instance : Body Tryz.prog 47:={}
instance : Body Tryz.prog 48:={}
instance : Body Tryz.prog 49:={}
instance : Body Tryz.prog 50:={}
instance : Body Tryz.prog 51:={}
instance : Body Tryz.prog 52:={}
instance : Body Tryz.prog 53:={}
instance : Body Tryz.prog 54:={}
instance : Body Tryz.prog 55:={}
instance : Body Tryz.prog 56:={}
instance : Body Tryz.prog 57:={}
instance : Body Tryz.prog 58:={}
instance : Body Tryz.prog 59:={}
instance : Body Tryz.prog 60:={}
instance : Body Tryz.prog 61:={}
instance : Body Tryz.prog 62:={}
instance : Body Tryz.prog 63:={}
instance : Body Tryz.prog 64:={}
instance : Body Tryz.prog 65:={}
instance : Body Tryz.prog 66:={}
instance : Body Tryz.prog 67:={}
instance : Body Tryz.prog 68:={}
instance : Body Tryz.prog 69:={}
instance : Body Tryz.prog 70:={}
instance : Body Tryz.prog 71:={}
instance : Body Tryz.prog 72:={}
instance : Body Tryz.prog 73:={}
instance : Body Tryz.prog 74:={}
instance : Body Tryz.prog 76:={}
instance : Body Tryz.prog 77:={}
instance : Body Tryz.prog 78:={}
instance : Body Tryz.prog 79:={}
instance : Body Tryz.prog 80:={}
instance : Body Tryz.prog 81:={}
instance : Body Tryz.prog 82:={}
instance : Body Tryz.prog 84:={}
instance : Body Tryz.prog 85:={}
instance : Body Tryz.prog 86:={}
instance : Body Tryz.prog 87:={}
instance : Body Tryz.prog 88:={}
instance : Body Tryz.prog 89:={}
instance : Body Tryz.prog 90:={}
instance : Body Tryz.prog 91:={}
instance : Body Tryz.prog 92:={}
instance : Body Tryz.prog 93:={}
instance : Body Tryz.prog 94:={}
instance : Body Tryz.prog 95:={}
instance : Body Tryz.prog 96:={}
instance : Body Tryz.prog 97:={}
instance : Body Tryz.prog 98:={}
instance : Body Tryz.prog 99:={}
instance : Body Tryz.prog 100:={}
instance : Body Tryz.prog 101:={}
instance : Body Tryz.prog 102:={}
instance : Body Tryz.prog 103:={}
instance : Body Tryz.prog 104:={}
instance : Body Tryz.prog 105:={}
instance : Body Tryz.prog 106:={}
instance : Body Tryz.prog 107:={}
instance : Body Tryz.prog 115:={}
instance : Body Tryz.prog 116:={}
instance : Body Tryz.prog 118:={}
instance : Body Tryz.prog 119:={}
instance : Body Tryz.prog 121:={}
instance : Body Tryz.prog 122:={}
instance : Body Tryz.prog 123:={}
instance : Body Tryz.prog 124:={}
instance : Body Tryz.prog 125:={}
instance : Body Tryz.prog 126:={}
instance : Body Tryz.prog 130:={}
instance : Body Tryz.prog 131:={}
instance : Body Tryz.prog 132:={}
instance : Body Tryz.prog 133:={}
instance : Body Tryz.prog 134:={}
instance : Body Tryz.prog 135:={}
instance : Body Tryz.prog 136:={}
instance : Body Tryz.prog 137:={}
instance : Body Tryz.prog 138:={}
instance : Body Tryz.prog 139:={}
instance : Body Tryz.prog 140:={}
instance : Body Tryz.prog 141:={}
instance : Body Tryz.prog 142:={}
instance : Body Tryz.prog 143:={}
instance : Body Tryz.prog 144:={}
instance : Body Tryz.prog 145:={}
instance : Body Tryz.prog 146:={}
instance : Body Tryz.prog 147:={}
instance : Body Tryz.prog 148:={}
instance : Body Tryz.prog 149:={}
instance : Body Tryz.prog 150:={}
instance : Body Tryz.prog 151:={}
instance : Body Tryz.prog 152:={}
instance : Body Tryz.prog 153:={}
instance : Body Tryz.prog 154:={}
instance : Body Tryz.prog 156:={}
instance : Body Tryz.prog 160:={}
instance : Body Tryz.prog 173:={}
instance : Body Tryz.prog 174:={}
instance : Body Tryz.prog 175:={}
instance : Body Tryz.prog 176:={}
instance : Body Tryz.prog 177:={}
instance : Body Tryz.prog 178:={}
instance : Body Tryz.prog 179:={}
instance : Body Tryz.prog 180:={}
instance : Body Tryz.prog 181:={}
instance : Body Tryz.prog 182:={}
instance : Body Tryz.prog 183:={}
instance : Body Tryz.prog 184:={}
instance : Body Tryz.prog 185:={}
instance : Body Tryz.prog 186:={}
instance : Body Tryz.prog 187:={}
instance : Body Tryz.prog 188:={}
instance : Body Tryz.prog 189:={}
instance : Body Tryz.prog 190:={}
instance : Body Tryz.prog 191:={}
instance : Body Tryz.prog 193:={}
instance : Body Tryz.prog 194:={}
instance : Body Tryz.prog 195:={}
instance : Body Tryz.prog 209:={}
instance : Body Tryz.prog 210:={}
instance : Body Tryz.prog 211:={}
instance : Body Tryz.prog 212:={}
instance : Body Tryz.prog 213:={}
instance : Body Tryz.prog 214:={}
instance : Body Tryz.prog 215:={}
instance : Body Tryz.prog 216:={}
instance : Body Tryz.prog 217:={}
instance : Body Tryz.prog 218:={}
instance : Body Tryz.prog 220:={}
instance : Body Tryz.prog 221:={}
instance : Body Tryz.prog 222:={}
instance : Body Tryz.prog 223:={}
instance : Body Tryz.prog 224:={}
instance : Body Tryz.prog 231:={}
instance : Body Tryz.prog 232:={}
instance : Body Tryz.prog 233:={}
instance : Body Tryz.prog 234:={}
instance : Body Tryz.prog 246:={}
instance : Body Tryz.prog 247:={}
instance : Body Tryz.prog 248:={}
instance : Body Tryz.prog 249:={}
instance : Body Tryz.prog 250:={}
instance : Body Tryz.prog 260:={}
instance : Body Tryz.prog 287:={}
instance : Body Tryz.prog 288:={}
instance : Body Tryz.prog 289:={}
instance : Body Tryz.prog 290:={}
instance : Body Tryz.prog 291:={}
instance : Body Tryz.prog 292:={}
instance : Body Tryz.prog 293:={}
instance : Body Tryz.prog 294:={}
instance : Body Tryz.prog 295:={}
instance : Body Tryz.prog 296:={}
instance : Body Tryz.prog 297:={}
instance : Body Tryz.prog 298:={}
instance : Body Tryz.prog 299:={}
instance : Body Tryz.prog 300:={}
instance : Body Tryz.prog 301:={}
instance : Body Tryz.prog 302:={}
instance : Body Tryz.prog 303:={}
instance : Body Tryz.prog 304:={}
instance : Body Tryz.prog 305:={}
instance : Body Tryz.prog 306:={}
instance : Body Tryz.prog 307:={}
instance : Body Tryz.prog 308:={}
instance : Body Tryz.prog 309:={}
instance : Body Tryz.prog 310:={}
instance : Body Tryz.prog 311:={}
instance : Body Tryz.prog 312:={}
instance : Body Tryz.prog 313:={}
instance : Body Tryz.prog 314:={}
instance : Body Tryz.prog 315:={}
open Go Go.RowKit Go.Wk
theorem Zmn (w:World)(p:Prop)[Decidable p](b:Bool):(if p then Result.ok b w else Result.ok false w)=Result.ok (decide p&&b) w:=by
 by_cases h:p <;> simp[h]
attribute [local irreducible] W RL Does Zau Zak retQ Calls Pu Stp RD Qy Ay
theorem Zap {α:Type}{xs:List α}{k:Nat}(h:k<xs.length):xs.drop k=xs[k]::xs.drop (k+1):=List.drop_eq_getElem_cons h
def srcV (Ar Az Al As:Option Addr)(cr cz cl cs:Nat)(s:Zai):Value := .agg #[.slice Ar s.rules.length cr,.slice Az s.zones.length cz,.slice Al s.links.length cl,.slice As s.shifts.length cs]
def memB (x:ByteArray):List ByteArray->Bool
 | []=>false
 | y::l=>decide (y=x)||memB x l
def Zb6 {α:Type}(p:α->Bool):List α->Nat->Int
 | [],_ => -1
 | x::l,k=>if p x then k else Zb6 p l (k+1)
theorem Zrx (A:Option Addr)(c:Nat)(l:List ByteArray)(x:ByteArray)(w:World)(hA:RdSl w A c Za2 1 l) :
  Does Tryz.prog 178 [.slice A l.length c,.string x] w (fun v O=>v = .int .i64 (Zb6 (fun y=>decide (x=y)) l 0)/\O=[]):=by
 have hs1:=hA.le
 have hs2:=hA.cap
 unfold maxLen at hs2
 generalize hres:Zb6 (fun y=>decide (x=y)) l 0=res
 refine Zaa Tryz.func178 rfl rfl rfl rfl ?_
 repeat (first|refine walk ?_)
 refine Zao [(0,_),(1,_),(4,_),(7,_)] _ (fun k:Nat=>[(8,.int .i64 k)]) (fun _=>[]) (fun k=>k<=l.length/\Zb6 (fun y=>decide (x=y)) (l.drop k) k=res) (fun k=>l.length - k) 0 ⟨rfl,rfl,rfl,rfl,rfl,trivial⟩ (.refl _) ⟨by omega,by simpa using hres⟩ ?_
 rintro k ⟨hk,hi⟩
 repeat (first|refine walk ?_)
 refine Zaf rfl (fun hc=>?_) (fun hc=>?_)
 ·simp only[decide_eq_true_eq,Int.ofNat_lt]at hc
  obtain⟨hna,hca⟩:=hA.rd k _ (List.getElem?_eq_getElem hc)
  have hnb:=hna
  have hcb:=hca
  rw[Zap hc,Zb6]at hi
  generalize l[k]=p at *
  repeat (first|(apply RL_pu;rfl;exact PuI)|refine walk1 ?_)
  refine Zaf rfl (fun h3=>?_) (fun h3=>?_)
  ·repeat (first|refine walk ?_)
   rw[if_pos h3]at hi
   exact ret_1 _ [] (.tmp rfl) .nil ⟨by rw[<- hi],rfl⟩
  repeat (first|refine walk ?_)
  rw[h3]at hi
  exact⟨k+1,by omega,⟨by omega,hi⟩,SFA,SOA⟩
 simp only[decide_eq_false_iff_not,Int.ofNat_lt]at hc
 repeat (first|refine walk ?_)
 exact ret_1 _ [] (.tmp rfl) .nil ⟨by rw[<- hi,List.drop_eq_nil_of_le (by omega)];rfl,rfl⟩
theorem ZmX (x:ByteArray):∀ (l:List ByteArray) (k:Nat),decide (0<=Zb6 (fun y=>decide (x=y)) l k)=memB x l
 | [],k=>by simp[Zb6,memB]
 | y::l,k=>by
  have ih:=ZmX x l (k+1)
  simp only[Zb6,memB]
  by_cases h:x=y
  ·subst h;simp
  ·rw[<- ih]
   have:¬ y=x:=fun e=>h e.symm
   simp[h,this]
theorem Zlp (A:Option Addr)(c:Nat)(l:List ByteArray)(x:ByteArray)(w:World)(hA:RdSl w A c Za2 1 l) :
  Does Tryz.prog 138 [.slice A l.length c,.string x] w (fun v O=>v = .bool (memB x l)/\O=[]):=by
 refine Zaa Tryz.func138 rfl rfl rfl rfl ?_
 repeat (first|(refine js ?_;(refine Zac (fun w' hw=>Zrx A c l x w' (hA.up hw)) ?_))|refine walk ?_)
 exact ret_1 _ [] (.tmp rfl) .nil ⟨by rw[ZmX],rfl⟩
theorem ZfI (A:Option Addr)(c:Nat)(l:List Zab)(f:FuncId)[Body Tryz.prog f](us cs:List Value)(p:Zab->Bool)(w:World)(hA:RdSl w A c Zab.enc 11 l)
  (hf:∀ r w',Bel w.heap.size w w'->Does Tryz.prog f (us++[.agg (Zab.enc r).toArray]++cs) w' (fun v O=>v = .bool (p r)/\O=[])) :
  Does Tryz.prog 209 [.slice A l.length c,.func (.func f) us.toArray cs.toArray] w (fun v O=>v = .int .i64 (Zb6 p l 0)/\O=[]):=by
 have hs1:=hA.le
 have hs2:=hA.cap
 unfold maxLen at hs2
 generalize hres:Zb6 p l 0=res
 refine Zaa Tryz.func209 rfl rfl rfl rfl ?_
 repeat (first|refine walk ?_)
 refine Zao [(0,_),(1,_),(4,_),(7,_)] _ (fun k:Nat=>[(8,.int .i64 k)]) (fun _=>[]) (fun k=>k<=l.length/\Zb6 p (l.drop k) k=res) (fun k=>l.length - k) 0 ⟨rfl,rfl,rfl,rfl,rfl,trivial⟩ (.refl _) ⟨by omega,by simpa using hres⟩ ?_
 rintro k ⟨hk,hi⟩
 repeat (first|refine walk ?_)
 refine Zaf rfl (fun hc=>?_) (fun hc=>?_)
 ·simp only[decide_eq_true_eq,Int.ofNat_lt]at hc
  obtain⟨hna,hca⟩:=hA.rd k _ (List.getElem?_eq_getElem hc)
  have hnb:=hna
  have hcb:=hca
  rw[Zap hc,Zb6]at hi
  generalize l[k]=r at *
  repeat (first|(apply RL_pu;rfl;exact PuI)|(refine js ?_;(refine ZgE (fun w' hw _=>hf r w' hw) ?_))|refine walk1 ?_)
  refine Zaf rfl (fun h3=>?_) (fun h3=>?_)
  ·repeat (first|refine walk ?_)
   rw[if_pos h3]at hi
   exact ret_1 _ [] (.tmp rfl) .nil ⟨by rw[<- hi],rfl⟩
  repeat (first|refine walk ?_)
  rw[h3]at hi
  exact⟨k+1,by omega,⟨by omega,hi⟩,SFA,SOA⟩
 simp only[decide_eq_false_iff_not,Int.ofNat_lt]at hc
 repeat (first|refine walk ?_)
 exact ret_1 _ [] (.tmp rfl) .nil ⟨by rw[<- hi,List.drop_eq_nil_of_le (by omega)];rfl,rfl⟩
end Go.Proofs.YtdlmhmmhdbbliaaGreatDoor
