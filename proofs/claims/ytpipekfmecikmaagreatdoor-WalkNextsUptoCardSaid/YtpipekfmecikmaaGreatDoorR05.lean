/- Parts of the proof. -/
import Derived.Test.YtpipekfmecikmaaGreatDoorR04
import Derived.Test.YtpipekfmecikmaaGreatDoorProg
set_option maxHeartbeats 4000000
set_option linter.all false
namespace Go.Wk
open Go Go.RowKit
structure Hold (p:Prop):Prop where
 out:p
theorem NfA {l l':List Value}(h:Nf l l':=by repeat (first|exact Go.Wk.Nf.nil|apply Go.Wk.Nf.cons)):Nf l l':=h
theorem SFA {a b:Fr}(h:Sub a b:=by repeat (first|exact trivial|refine⟨rfl,?_⟩)):Sub a b:=h
theorem SOA {a b:List It}(h:SubO a b:=by first|exact .refl _|(repeat (first|exact Go.Wk.SubO.nil|(apply Go.Wk.SubO.cons;focus repeat' constructor)))):SubO a b:=h
theorem STA {a b:List It}(h:SubO a b:=by repeat (first|exact Go.Wk.SubO.nil|(apply Go.Wk.SubO.cons;(focus repeat' constructor))|exact .refl _|apply Go.Wk.SubO.drop)):SubO a b:=h
theorem stA {G G':Prop}(k:G')(h:Hold G'->G:=by intro k;(first|(apply Go.Wk.Stp_storeNf;rfl;rfl;(focus repeat' constructor);exact Go.Wk.NfA;rfl;rfl;rfl;(focus repeat' constructor))|(apply Go.Wk.Stp_mapUpdate;rfl;rfl;rfl;(focus repeat' constructor)));exact k.out):G:=h ⟨k⟩
theorem OA {p:Prop}(h:p:=by first|omega|(dsimp only;omega)):p:=h
section
variable {P:Program}{n:Nat}{wr:World}{fr:Fr}{O:List It}{ty:TypeId}{pos:String}{af:Array Edge}{f:FuncId}{xs:List Operand}{ts:Array TypeId}{us vs cs:List Value}{dst:Option Tmp}{g:Option (Nat × Bool)}{x:Value}{gx:Operand}{Kp:Value->List It->Prop}[Body P f]
theorem ZaJ (h:∀ w,Bel wr.heap.size wr w->Zaz wr.heap.size O w->Does P f vs w (fun v O=>v=x/\O=[]))(k:Kp x ([]++O))(hx:evsO fr xs=some vs:=by rfl):Stp P n wr fr O ⟨dst,.call ⟨.value (.func f),xs.toArray,ts⟩,ty,pos,af,g⟩ Kp :=
 Zad hx h (by rintro v O' ⟨rfl,rfl⟩;exact k)
theorem Zac (h:∀ w,Bel wr.heap.size wr w->Does P f vs w (fun v O=>v=x/\O=[]))(k:Kp x ([]++O))(hx:evsO fr xs=some vs:=by rfl):Stp P n wr fr O ⟨dst,.call ⟨.value (.func f),xs.toArray,ts⟩,ty,pos,af,g⟩ Kp :=
 ZaJ (fun w a _=>h w a) k hx
theorem Zge (h:∀ w,Bel wr.heap.size wr w->Zaz wr.heap.size O w->Does P f (us++vs++cs) w (fun v O=>v=x/\O=[]))(k:Kp x ([]++O))(hg:ev fr gx=some (.func (.func f) us.toArray cs.toArray):=by rfl)(hx:evsO fr xs=some vs:=by rfl):Stp P n wr fr O ⟨dst,.call ⟨.value gx,xs.toArray,ts⟩,ty,pos,af,g⟩ Kp :=
 Zav hg hx h (by rintro v O' ⟨rfl,rfl⟩;exact k)
end
theorem clo1 {G:Prop}(h:G:=by first|(refine Go.Wk.ret_1 _ [] (.tmp rfl) .nil ⟨?_,rfl⟩;first|rfl|(simp only[*,Bool.true_and,Bool.false_and,Bool.true_or,Bool.false_or,Bool.not_true,Bool.not_false];done)|(simp_all;done)|(simp_all;omega)|(simp_all;rw[Bool.eq_iff_iff];simp;omega))|(exfalso;simp_all;done)|(exfalso;simp_all;omega)|(exfalso;omega)):G:=h
theorem clo2 {G:Prop}(h:G:=by first|(refine Go.Wk.ret_2 _ _ [] (.tmp rfl) (.tmp rfl) .nil ⟨?_,rfl⟩;first|rfl|(simp only[*,Bool.true_and,Bool.false_and,Bool.true_or,Bool.false_or,Bool.not_true,Bool.not_false];done)|(simp_all;done)|(simp_all;omega)|(simp_all;rw[Bool.eq_iff_iff];simp;omega))|(exfalso;simp_all;done)|(exfalso;simp_all;omega)|(exfalso;omega)):G:=h
theorem rtA {G:Prop}(h:G:=by exact Go.Wk.ret_1 _ [] (.tmp rfl) .nil ⟨rfl,rfl⟩):G:=h
theorem rtB {G:Prop}(h:G:=by exact Go.Wk.ret_2 _ _ [] (.tmp rfl) (.tmp rfl) .nil ⟨rfl,rfl⟩):G:=h
theorem rtC {G:Prop}(h:G:=by exact Go.Wk.ret_2 _ _ [] (.cellB rfl (by repeat' constructor) rfl rfl) (.tmp rfl) .nil ⟨rfl,rfl⟩):G:=h
theorem PuI {G:Prop}(h:G:=by first|(apply Go.Wk.Pu_indexAddr;rfl;rfl;omega;omega;(first|exact hna|exact hnb))|(apply Go.Wk.Pu_loadON;rfl;(first|exact hca|exact hcb);rfl)|(apply Go.Wk.Pu_loadO1';rfl;(first|exact hca|exact hcb);rfl)|(apply Go.Wk.Pu_loadO1;rfl;(first|exact hca 0 _ rfl|exact hcb 0 _ rfl))):G:=h
theorem und {G G':Prop}(k:G')(h:Hold G'->G:=by intro k;exact Go.Wk.RL_und rfl rfl rfl rfl k.out):G:=h ⟨k⟩
theorem RLid {P:Program}{n:Nat}{wr:World}{ops:Array Oper}{a:List Oper}{K:Fr->List It->Prop}{fr:Fr}{O:List It}(h:RL P n wr ops a K fr O):RL P n wr ops a K fr O:=h
theorem bx {G G':Prop}(k:G')(h:Hold G'->G:=by intro k;(first|(apply Go.Wk.Stp_boxNf;rfl;exact Go.Wk.NfA;exact k.out)|(apply Go.Wk.Stp_alloc;exact k.out)|(apply Go.Wk.Stp_buildSlice0;exact k.out)|(apply Go.Wk.Stp_buildSliceC;rfl;rfl;rfl;rfl;exact Go.Wk.NfA;exact k.out)|(apply Go.Wk.Stp_buildSliceNf;rfl;rfl;rfl;exact Go.Wk.NfA;exact k.out)|(apply Go.Wk.Stp_makeMap;exact k.out))):G:=h ⟨k⟩
section
variable {P:Program}{n:Nat}{wr:World}{ops:Array Oper}{rest:List Oper}{K:Fr->List It->Prop}{fr:Fr}{O:List It}{ty:TypeId}{pos:String}{af:Array Edge}{d:Nat}
theorem PuA {op:Op}{v:Value}(h:Pu P n wr fr O op ty v:=by(first|(apply Go.Wk.Pu_move;rfl)|(apply Go.Wk.Pu_assign;rfl)|(apply Go.Wk.Pu_pickT;rfl;rfl)|(apply Go.Wk.Pu_pickF;rfl;rfl)|(apply Go.Wk.Pu_fieldAddr0;rfl)|(apply Go.Wk.Pu_fieldAddr;rfl)|(apply Go.Wk.Pu_loadNf;rfl;(focus repeat' constructor);exact Go.Wk.NfA;rfl)|(apply Go.Wk.Pu_loadB1;rfl;(focus repeat' constructor);rfl)|(apply Go.Wk.Pu_field1;rfl;rfl)|(apply Go.Wk.Pu_fieldNf;rfl;exact Go.Wk.NfA)|(apply Go.Wk.Pu_extract;rfl;rfl)|(apply Go.Wk.Pu_buildNf;rfl;rfl;exact Go.Wk.NfA)|(apply Go.Wk.Pu_nilCheck;rfl)|(apply Go.Wk.Pu_nilCheckF;rfl)|(apply Go.Wk.Pu_makeFunc;rfl;rfl)|(apply Go.Wk.Pu_lookup;rfl;rfl;(focus repeat' constructor))|(apply Go.Wk.Pu_lookupOk;rfl;rfl;(focus repeat' constructor))|(apply Go.Wk.Pu_not;rfl)|(apply Go.Wk.Pu_negW;rfl)|(apply Go.Wk.Pu_conv64;rfl;(constructor <;> omega))|(apply Go.Wk.Pu_convI;rfl)|(apply Go.Wk.Pu_lss;rfl;rfl)|(apply Go.Wk.Pu_leq;rfl;rfl)|(apply Go.Wk.Pu_gtr;rfl;rfl)|(apply Go.Wk.Pu_geq;rfl;rfl)|(apply Go.Wk.Pu_eql;rfl;rfl)|(apply Go.Wk.Pu_neq;rfl;rfl)|(apply Go.Wk.Pu_remE;rfl;rfl;omega;omega)|(apply Go.Wk.Pu_rem;rfl;rfl;(first|decide|omega))|(apply Go.Wk.Pu_quo8;rfl;rfl;omega;omega;omega)|(apply Go.Wk.Pu_quo16;rfl;rfl;omega;omega;omega)|(apply Go.Wk.Pu_quo64;rfl;rfl;omega;omega;omega)|(apply Go.Wk.Pu_quo;rfl;rfl;(first|decide|omega))|(apply Go.Wk.Pu_loadLit;rfl;(focus repeat' constructor);rfl;(simp only[Go.Wk.lay_length,Go.Wk.sliceZ_len,List.length_cons,List.length_nil];omega))|(apply Go.Wk.Pu_indexAddr;rfl;rfl;omega;omega;nofun)|(apply Go.Wk.Pu_add;rfl;rfl;(constructor <;> omega))|(apply Go.Wk.Pu_sub';rfl;rfl;(constructor <;> omega))|(apply Go.Wk.Pu_eqlS;rfl;rfl)|(apply Go.Wk.Pu_neqS;rfl;rfl)|(apply Go.Wk.Pu_lssS;rfl;rfl)|(apply Go.Wk.Pu_eqB;rfl;rfl)|(apply Go.Wk.Pu_neqB;rfl;rfl)|(apply Go.Wk.Pu_eqNil;rfl)|(apply Go.Wk.Pu_sliceH;rfl;rfl;omega;omega)|(apply Go.Wk.Pu_capL;rfl)|(apply Go.Wk.Pu_lenL;rfl)|(apply Go.Wk.Pu_lenS;rfl)|(apply Go.Wk.Pu_lenMap;rfl;(focus repeat' constructor))|(apply Go.Wk.Pu_eqlE;rfl;rfl)|(apply Go.Wk.Pu_neqE;rfl;rfl))):Pu P n wr fr O op ty v:=h
theorem QyA {o:Oper}{v:Value}(h:Qy P n wr ops fr O o v:=by(first|(apply Go.Wk.Qy_y;rfl;exact Go.Wk.PuA)|(apply Go.Wk.Qy_n;rfl))):Qy P n wr ops fr O o v:=h
theorem QFA {V:List Qp}(h:QF P n wr ops fr O V:=by repeat (first|exact Go.Wk.QF.nil|(apply Go.Wk.QF.mk;rfl;rfl;decide +kernel;exact Go.Wk.QyA))):QF P n wr ops fr O V:=h
theorem QyI {G:Prop}(h:G:=by first|(apply Go.Wk.Qy_y;rfl;exact Go.Wk.PuI)|exact Go.Wk.QyA):G:=h
theorem QFI {G:Prop}(h:G:=by repeat (first|exact Go.Wk.QF.nil|(apply Go.Wk.QF.mk;rfl;rfl;decide +kernel;exact Go.Wk.QyI))):G:=h
theorem walk1 {G G':Prop}(k:G')(h:Hold G'->G:=by intro k;(first|(apply Go.Wk.RL_pu;rfl;exact Go.Wk.PuA)|(apply Go.Wk.RL_st0;refine Go.Wk.stA ?_)|apply Go.Wk.W_seq|apply Go.Wk.W_region|apply Go.Wk.RL_nil|apply Go.Wk.thenQ_n|apply Go.Wk.W_block|apply Go.Wk.W_skip|apply Go.Wk.W_ret|apply Go.Wk.W_exit|apply Go.Wk.thenQ_r|apply Go.Wk.thenQ_e|apply Go.Wk.blockQ_n|apply Go.Wk.blockQ_r|apply Go.Wk.blockQ_hit|(apply Go.Wk.blockQ_miss;rfl)|(apply Go.Wk.W_true;rfl)|(apply Go.Wk.W_false;rfl)|(apply Go.Wk.RL_yes;rfl;rfl;rfl)|(apply Go.Wk.RL_no;rfl;rfl;rfl;rfl;rfl)|(apply Go.Wk.W_draw;rfl;decide +kernel)|apply Go.Wk.RD_done|(apply Go.Wk.RD_Q;rfl;rfl;decide +kernel;rfl;rfl;exact Go.Wk.QyA)|(apply Go.Wk.RD_N;rfl;rfl;decide +kernel;rfl;rfl;rfl)|(apply Go.Wk.RD_A;rfl;rfl;decide +kernel;rfl;rfl;first|exact Go.Wk.Ay_alloc|exact Go.Wk.Ay_buildSlice0|(apply Go.Wk.Ay_buildSliceC;rfl;rfl;rfl;rfl;exact Go.Wk.NfA)|(apply Go.Wk.Ay_buildSliceNf;rfl;rfl;rfl;exact Go.Wk.NfA)));exact k.out):G:=h ⟨k⟩
theorem walk {G G':Prop}(k:G')(h:Hold G'->G:=by intro k;refine Go.Wk.walk1 ?_;(repeat refine Go.Wk.walk1 ?_);exact k.out):G:=h ⟨k⟩
theorem walk0a {G G':Prop}(k:G')(h:Hold G'->G:=by intro k;(first|(apply Go.Wk.RL_pu;rfl;exact Go.Wk.PuA)|(apply Go.Wk.RL_st0;refine Go.Wk.stA ?_)|apply Go.Wk.W_seq|apply Go.Wk.W_region|apply Go.Wk.RL_nil|apply Go.Wk.thenQ_n|apply Go.Wk.W_block|apply Go.Wk.W_skip|apply Go.Wk.W_ret|apply Go.Wk.W_exit|apply Go.Wk.thenQ_r|apply Go.Wk.thenQ_e|apply Go.Wk.blockQ_n|apply Go.Wk.blockQ_r|apply Go.Wk.blockQ_hit|(apply Go.Wk.blockQ_miss;rfl)|(apply Go.Wk.W_true;rfl)|(apply Go.Wk.W_false;rfl)|(apply Go.Wk.RL_yes;rfl;rfl;rfl)|(apply Go.Wk.RL_no;rfl;rfl;rfl;rfl;rfl)|apply Go.Wk.RD_done|(apply Go.Wk.RD_Q;rfl;rfl;decide +kernel;rfl;rfl;exact Go.Wk.QyA)|(apply Go.Wk.RD_N;rfl;rfl;decide +kernel;rfl;rfl;rfl)|(apply Go.Wk.RD_A;rfl;rfl;decide +kernel;rfl;rfl;first|exact Go.Wk.Ay_alloc|exact Go.Wk.Ay_buildSlice0|(apply Go.Wk.Ay_buildSliceC;rfl;rfl;rfl;rfl;exact Go.Wk.NfA)|(apply Go.Wk.Ay_buildSliceNf;rfl;rfl;rfl;exact Go.Wk.NfA)));exact k.out):G:=h ⟨k⟩
theorem Zzw {G G':Prop}(k:G')(h:Hold G'->G:=by intro k;refine Go.Wk.walk0a ?_;(repeat refine Go.Wk.walk0a ?_);exact k.out):G:=h ⟨k⟩
theorem EndsA {A B C:List It}(h:Ends A B C:=by repeat (first|exact Go.Wk.Ends.nil|apply Go.Wk.Ends.cons|exact Go.Wk.Ends.app)):Ends A B C:=h
theorem RD_Lw {todo:List (Nat × Oper)}{V V':List Qp}{Al:List Ap}{i:Nat}{o:Oper}(a:∀ F,Stp P n wr fr (O++F) o fun v O'=>∃ O'',Ends O' F O''/\QF P n wr ops (updF fr o.dst v) O'' V'/\RD P n wr ops todo V' Al K (updF fr o.dst v) O'')
  (hV:Filt ops i V V':=by repeat (first|exact Go.Wk.Filt.nil|(apply Go.Wk.Filt.drop;rfl)|(apply Go.Wk.Filt.dropT;rfl)|(apply Go.Wk.Filt.keep;rfl))) (hok:okL n ops fr ((i,o)::todo) todo o=true:=by rfl) (hal:alOk n fr o.dst Al=true:=by rfl):RD P n wr ops ((i,o)::todo) V Al K fr O:=RD_L hok hal hV a
theorem jn {G G':Prop}(k:G')(h:Hold G'->G:=by intro k;(first|(apply Go.Wk.RL_st0;exact k.out)|(apply Go.Wk.RL_st;rfl;exact k.out)|(refine Go.Wk.RD_Lw ?_;exact k.out))):G:=h ⟨k⟩
theorem js {G G':Prop}(k:G')(h:Hold G'->G:=by intro k;(first|(apply Go.Wk.RL_st0;exact k.out)|(apply Go.Wk.RL_st;rfl;exact k.out))):G:=h ⟨k⟩
theorem fin {G G':Prop}(k:G')(h:Hold G'->G:=by intro k;(first|exact⟨_,Go.Wk.EndsA,Go.Wk.QFA,k.out⟩|exact Go.Wk.RLid k.out|exact⟨_,Go.Wk.EndsA,Go.Wk.SubO.right _ _,k.out⟩|(refine⟨_,?_,?_,?_⟩;exact Go.Wk.EndsA;exact .refl _;exact k.out))):G:=h ⟨k⟩
theorem ZBN {todo todo':List (Nat × Oper)}{V V':List Qp}{Al A1:List Ap}{k:Ap}{i:Nat}{o:Oper}(c:∀ b,RD P n wr ops todo V A1 K ((k.d,k.val b)::fr) (k.it b::O))(a:∀ F,Stp P n wr fr (O++F) o fun v O'=>∃ O'',Ends O' F O''/\QF P n wr ops (updF fr o.dst v) O'' V'/\RD P n wr ops todo' V' Al K (updF fr o.dst v) O'')
  (hp:Zh4 ops todo Al todo=some ((i,o),todo'):=by rfl) (hks:Zk6 ops todo [] Al=[(k,A1)]:=by rfl) (hV:Filt ops i V V':=by repeat (first|exact Go.Wk.Filt.nil|(apply Go.Wk.Filt.drop;rfl)|(apply Go.Wk.Filt.dropT;rfl)|(apply Go.Wk.Filt.keep;rfl))) (hok:okK n ops fr todo todo' o [k.i]=true:=by rfl) (hal:alOk n fr o.dst Al=true:=by rfl):RD P n wr ops todo V Al K fr O:=ZDv hp hks hok hal hV c a
theorem jg {G G':Prop}(k:G')(h:Hold G'->G:=by intro k;(first|(apply Go.Wk.RL_st0;exact k.out)|(apply Go.Wk.RL_st;rfl;exact k.out)|(refine Go.Wk.RD_Lw ?_;exact k.out)|(refine Go.Wk.RD_G0c ?_;exact k.out))):G:=h ⟨k⟩
end
end Go.Wk
namespace Go.Proofs.YtpipekfmecikmaaGreatDoor
open Go Go.Wk
instance : Ty Tryz.prog 2 1 false:={}
instance : ZeroT Tryz.prog 2 [.int .i64 0]:={}
instance : IntT Tryz.prog 2 .i64:={}
instance : Ty Tryz.prog 3 1 false:={}
instance : ZeroT Tryz.prog 3 [.int .i64 0]:={}
instance : ZeroV Tryz.prog 3 (.int .i64 0):={}
instance : Ty Tryz.prog 4 1 false:={}
instance : ZeroT Tryz.prog 4 [.bool false]:={}
instance : ZeroV Tryz.prog 4 (.bool false):={}
instance : BoolT Tryz.prog 4:={}
instance : Ty Tryz.prog 5 1 false:={}
instance : ZeroT Tryz.prog 5 [.int .u8 0]:={}
instance : IntT Tryz.prog 5 .u8:={}
instance : Ty Tryz.prog 9 1 false:={}
instance : ZeroT Tryz.prog 9 [.string ByteArray.empty]:={}
instance : StringT Tryz.prog 9:={}
instance : Ty Tryz.prog 22 1 false:={}
instance : ZeroT Tryz.prog 22 [.slice none 0 0]:={}
instance : ElemZ Tryz.prog 22 68 11 104:={}
instance : ZeroV Tryz.prog 22 (.slice none 0 0):={}
instance : ElemT Tryz.prog 22 68 11 104:={}
instance : Ty Tryz.prog 23 1 false:={}
instance : ElemZ Tryz.prog 23 71 2 40:={}
instance : ElemT Tryz.prog 23 71 2 40:={}
instance : Ty Tryz.prog 24 1 false:={}
instance : ElemZ Tryz.prog 24 77 2 32:={}
instance : ElemT Tryz.prog 24 77 2 32:={}
instance : Ty Tryz.prog 25 1 false:={}
instance : ElemZ Tryz.prog 25 9 1 16:={}
instance : ElemT Tryz.prog 25 9 1 16:={}
instance : Ty Tryz.prog 27 4 true:={}
instance : FieldAt Tryz.prog 27 0 0 1 false:={}
instance : FieldAt Tryz.prog 27 1 1 1 false:={}
instance : FieldAt Tryz.prog 27 2 2 1 false:={}
instance : FieldAt Tryz.prog 27 3 3 1 false:={}
instance : LayT Tryz.prog 27 [(0,1),(1,1),(2,1),(3,1)]:={}
instance : ZeroT Tryz.prog 27 [.slice none 0 0,.slice none 0 0,.slice none 0 0,.slice none 0 0]:={}
instance : Ty Tryz.prog 34 1 false:={}
instance : ZeroT Tryz.prog 34 [.int .i64 0]:={}
instance : Ty Tryz.prog 42 3 true:={}
instance : LayT Tryz.prog 42 [(0,1),(1,1),(2,1)]:={}
instance : ZeroT Tryz.prog 42 [.int .i64 0,.bool false,.string ByteArray.empty]:={}
instance : Ty Tryz.prog 53 1 false:={}
instance : ZeroT Tryz.prog 53 [.slice none 0 0]:={}
instance : ElemZ Tryz.prog 53 59 2 16:={}
instance : ElemT Tryz.prog 53 59 2 16:={}
instance : Ty Tryz.prog 54 1 false:={}
instance : ZeroT Tryz.prog 54 [.slice none 0 0]:={}
instance : ElemZ Tryz.prog 54 42 3 32:={}
instance : ElemT Tryz.prog 54 42 3 32:={}
instance : Ty Tryz.prog 59 2 true:={}
instance : LayT Tryz.prog 59 [(0,1),(1,1)]:={}
instance : ZeroT Tryz.prog 59 [.int .i64 0,.int .i64 0]:={}
instance : Ty Tryz.prog 62 1 false:={}
instance : Ty Tryz.prog 64 3 true:={}
instance : FieldAt Tryz.prog 64 0 0 1 false:={}
instance : FieldAt Tryz.prog 64 1 1 1 false:={}
instance : FieldAt Tryz.prog 64 2 2 1 false:={}
instance : LayT Tryz.prog 64 [(0,1),(1,1),(2,1)]:={}
instance : ZeroT Tryz.prog 64 [.int .i64 0,.int .i64 0,.int .i64 0]:={}
instance : Ty Tryz.prog 66 2 true:={}
instance : FieldAt Tryz.prog 66 0 0 1 false:={}
instance : FieldAt Tryz.prog 66 1 1 1 false:={}
instance : LayT Tryz.prog 66 [(0,1),(1,1)]:={}
instance : ZeroT Tryz.prog 66 [.int .i64 0,.int .i64 0]:={}
instance : Ty Tryz.prog 68 11 true:={}
instance : FieldAt Tryz.prog 68 0 0 1 false:={}
instance : FieldAt Tryz.prog 68 1 1 1 false:={}
instance : FieldAt Tryz.prog 68 2 2 1 false:={}
instance : FieldAt Tryz.prog 68 3 3 1 false:={}
instance : FieldAt Tryz.prog 68 4 4 3 true:={}
instance : FieldAt Tryz.prog 68 5 7 2 true:={}
instance : FieldAt Tryz.prog 68 6 9 1 false:={}
instance : FieldAt Tryz.prog 68 7 10 1 false:={}
instance : LayT Tryz.prog 68 [(0,1),(1,1),(2,1),(3,1),(4,3),(7,2),(9,1),(10,1)]:={}
instance : ZeroT Tryz.prog 68 [.string ByteArray.empty,.int .i64 0,.int .i64 0,.int .i64 0,.int .i64 0,.int .i64 0,.int .i64 0,.int .i64 0,.int .i64 0,.int .i64 0,.string ByteArray.empty]:={}
instance : Ty Tryz.prog 69 1 false:={}
instance : ElemZ Tryz.prog 69 75 13 120:={}
instance : ElemT Tryz.prog 69 75 13 120:={}
instance : Ty Tryz.prog 71 2 true:={}
instance : FieldAt Tryz.prog 71 0 0 1 false:={}
instance : FieldAt Tryz.prog 71 1 1 1 false:={}
instance : LayT Tryz.prog 71 [(0,1),(1,1)]:={}
instance : ZeroT Tryz.prog 71 [.string ByteArray.empty,.slice none 0 0]:={}
instance : Ty Tryz.prog 73 8 true:={}
instance : FieldAt Tryz.prog 73 0 0 1 false:={}
instance : FieldAt Tryz.prog 73 1 1 1 false:={}
instance : FieldAt Tryz.prog 73 2 2 1 false:={}
instance : FieldAt Tryz.prog 73 3 3 3 true:={}
instance : FieldAt Tryz.prog 73 4 6 2 true:={}
instance : LayT Tryz.prog 73 [(0,1),(1,1),(2,1),(3,3),(6,2)]:={}
instance : ZeroT Tryz.prog 73 [.bool false,.int .i64 0,.int .i64 0,.int .i64 0,.int .i64 0,.int .i64 0,.int .i64 0,.int .i64 0]:={}
instance : Ty Tryz.prog 75 13 true:={}
instance : FieldAt Tryz.prog 75 0 0 1 false:={}
instance : FieldAt Tryz.prog 75 1 1 1 false:={}
instance : FieldAt Tryz.prog 75 2 2 1 false:={}
instance : FieldAt Tryz.prog 75 3 3 1 false:={}
instance : FieldAt Tryz.prog 75 4 4 1 false:={}
instance : FieldAt Tryz.prog 75 5 5 8 true:={}
instance : LayT Tryz.prog 75 [(0,1),(1,1),(2,1),(3,1),(4,1),(5,8)]:={}
instance : ZeroT Tryz.prog 75 [.int .i64 0,.int .i64 0,.int .i64 0,.string ByteArray.empty,.string ByteArray.empty,.bool false,.int .i64 0,.int .i64 0,.int .i64 0,.int .i64 0,.int .i64 0,.int .i64 0,.int .i64 0]:={}
instance : Ty Tryz.prog 77 2 true:={}
instance : FieldAt Tryz.prog 77 0 0 1 false:={}
instance : FieldAt Tryz.prog 77 1 1 1 false:={}
instance : LayT Tryz.prog 77 [(0,1),(1,1)]:={}
instance : ZeroT Tryz.prog 77 [.string ByteArray.empty,.string ByteArray.empty]:={}
instance : Ty Tryz.prog 91 3 true:={}
instance : FieldAt Tryz.prog 91 0 0 1 false:={}
instance : FieldAt Tryz.prog 91 1 1 1 false:={}
instance : FieldAt Tryz.prog 91 2 2 1 false:={}
instance : LayT Tryz.prog 91 [(0,1),(1,1),(2,1)]:={}
instance : ZeroT Tryz.prog 91 [.int .i64 0,.int .i64 0,.int .i64 0]:={}
instance : Ty Tryz.prog 105 1 false:={}
instance : ElemZ Tryz.prog 105 109 3 24:={}
instance : ElemT Tryz.prog 105 109 3 24:={}
instance : Ty Tryz.prog 109 3 true:={}
instance : FieldAt Tryz.prog 109 0 0 1 false:={}
instance : FieldAt Tryz.prog 109 1 1 1 false:={}
instance : FieldAt Tryz.prog 109 2 2 1 false:={}
instance : LayT Tryz.prog 109 [(0,1),(1,1),(2,1)]:={}
instance : ZeroT Tryz.prog 109 [.int .i64 0,.int .i64 0,.int .i64 0]:={}
instance : Ty Tryz.prog 114 2 true:={}
instance : ArrT Tryz.prog 114 2 2 1 false:={}
instance : ZeroT Tryz.prog 114 [.int .i64 0,.int .i64 0]:={}
instance : ElemZ Tryz.prog 115 114 2 16:={}
instance : ElemT Tryz.prog 115 114 2 16:={}
instance : Ty Tryz.prog 116 1 false:={}
instance : ElemZ Tryz.prog 116 22 1 24:={}
instance : ElemT Tryz.prog 116 22 1 24:={}
instance : Ty Tryz.prog 118 3 true:={}
instance : FieldAt Tryz.prog 118 0 0 1 false:={}
instance : FieldAt Tryz.prog 118 1 1 1 false:={}
instance : FieldAt Tryz.prog 118 2 2 1 false:={}
instance : LayT Tryz.prog 118 [(0,1),(1,1),(2,1)]:={}
instance : ZeroT Tryz.prog 118 [.slice none 0 0,.slice none 0 0,.slice none 0 0]:={}
instance : Ty Tryz.prog 125 1 false:={}
instance : ZeroT Tryz.prog 125 [.map none]:={}
instance : MapT Tryz.prog 125 42 3:={}
instance : Ty Tryz.prog 138 3 true:={}
instance : FieldAt Tryz.prog 138 2 2 1 false:={}
instance : LayT Tryz.prog 138 [(0,1),(1,1),(2,1)]:={}
instance : ZeroT Tryz.prog 138 [.int .i64 0,.int .i64 0,.int .i64 0]:={}
instance : Ty Tryz.prog 155 2 true:={}
instance : FieldAt Tryz.prog 155 0 0 1 false:={}
instance : FieldAt Tryz.prog 155 1 1 1 false:={}
instance : LayT Tryz.prog 155 [(0,1),(1,1)]:={}
instance : ZeroT Tryz.prog 155 [.int .i64 0,.string ByteArray.empty]:={}
instance : Ty Tryz.prog 169 1 false:={}
instance : Ty Tryz.prog 171 3 true:={}
instance : FieldAt Tryz.prog 171 0 0 1 false:={}
instance : FieldAt Tryz.prog 171 1 1 1 false:={}
instance : FieldAt Tryz.prog 171 2 2 1 false:={}
instance : ZeroT Tryz.prog 171 [.bool false,.bool false,.nilFunc]:={}
instance : ArrT Tryz.prog 172 5 171 3 true:={}
instance : Ty Tryz.prog 174 4 true:={}
instance : FieldAt Tryz.prog 174 0 0 4 true:={}
instance : LayT Tryz.prog 174 [(0,4)]:={}
instance : ZeroT Tryz.prog 174 [.slice none 0 0,.slice none 0 0,.slice none 0 0,.slice none 0 0]:={}
instance : Ty Tryz.prog 175 1 false:={}
instance : ElemZ Tryz.prog 176 175 1 8:={}
instance : ElemT Tryz.prog 176 175 1 8:={}
instance : Ty Tryz.prog 193 1 false:={}
instance : MapT Tryz.prog 193 9 22:={}
instance : Ty Tryz.prog 195 5 true:={}
instance : FieldAt Tryz.prog 195 0 0 4 true:={}
instance : FieldAt Tryz.prog 195 1 4 1 false:={}
instance : LayT Tryz.prog 195 [(0,4),(4,1)]:={}
instance : ZeroT Tryz.prog 195 [.slice none 0 0,.slice none 0 0,.slice none 0 0,.slice none 0 0,.map none]:={}
instance : MapT Tryz.prog 207 9 3:={}
instance : ArrT Tryz.prog 209 12 2 1 false:={}
instance : ElemZ Tryz.prog 221 3 1 8:={}
instance : ElemT Tryz.prog 221 3 1 8:={}
instance : Ty Tryz.prog 238 3 true:={}
instance : ArrT Tryz.prog 238 3 2 1 false:={}
instance : ZeroT Tryz.prog 238 [.int .i64 0,.int .i64 0,.int .i64 0]:={}
instance : ElemZ Tryz.prog 239 5 1 1:={}
instance : ElemT Tryz.prog 239 5 1 1:={}
instance : ElemZ Tryz.prog 240 2 1 8:={}
instance : ElemT Tryz.prog 240 2 1 8:={}
instance : MapT Tryz.prog 245 9 4:={}
instance : Ty Tryz.prog 246 1 false:={}
instance : Ty Tryz.prog 248 2 true:={}
instance : FieldAt Tryz.prog 248 0 0 1 false:={}
instance : FieldAt Tryz.prog 248 1 1 1 false:={}
instance : ZeroT Tryz.prog 248 [.nilFunc,.int .i64 0]:={}
instance : Ty Tryz.prog 249 12 true:={}
instance : ArrT Tryz.prog 249 6 248 2 true:={}
instance : Ty Tryz.prog 252 1 false:={}
instance : ZeroT Tryz.prog 252 [.slice none 0 0]:={}
instance : ElemZ Tryz.prog 252 91 3 24:={}
instance : ElemT Tryz.prog 252 91 3 24:={}
instance : ElemZ Tryz.prog 259 155 2 24:={}
instance : ElemT Tryz.prog 259 155 2 24:={}
instance : MapT Tryz.prog 264 266 3:={}
instance : LayT Tryz.prog 266 [(0,1),(1,1)]:={}
instance : ZeroT Tryz.prog 266 [.int .i64 0,.string ByteArray.empty]:={}
instance : ElemZ Tryz.prog 269 252 1 24:={}
instance : ElemT Tryz.prog 269 252 1 24:={}
instance : ElemZ Tryz.prog 274 276 2 24:={}
instance : ElemT Tryz.prog 274 276 2 24:={}
instance : Ty Tryz.prog 276 2 true:={}
instance : LayT Tryz.prog 276 [(0,1),(1,1)]:={}
instance : ZeroT Tryz.prog 276 [.int .i64 0,.string ByteArray.empty]:={}
instance : Ty Tryz.prog 279 256 true:={}
instance : ArrT Tryz.prog 279 256 5 1 false:={}
instance : Ty Tryz.prog 286 1 false:={}
instance : IntT Tryz.prog 286 .u64:={}
instance : Body Tryz.prog 22:={}
instance : Body Tryz.prog 23:={}
instance : Body Tryz.prog 24:={}
instance : Body Tryz.prog 25:={}
instance : Body Tryz.prog 27:={}
instance : Body Tryz.prog 29:={}
instance : Body Tryz.prog 30:={}
instance : Body Tryz.prog 42:={}
instance : Body Tryz.prog 46:={}
instance : Body Tryz.prog 53:={}
instance : Body Tryz.prog 56:={}
instance : Body Tryz.prog 57:={}
instance : Body Tryz.prog 60:={}
instance : Body Tryz.prog 61:={}
instance : Body Tryz.prog 62:={}
instance : Body Tryz.prog 63:={}
instance : Body Tryz.prog 64:={}
instance : Body Tryz.prog 65:={}
instance : Body Tryz.prog 66:={}
instance : Body Tryz.prog 67:={}
instance : Body Tryz.prog 68:={}
instance : Body Tryz.prog 69:={}
instance : Body Tryz.prog 72:={}
instance : Body Tryz.prog 73:={}
instance : Body Tryz.prog 75:={}
instance : Body Tryz.prog 76:={}
instance : Body Tryz.prog 78:={}
instance : Body Tryz.prog 79:={}
instance : Body Tryz.prog 80:={}
instance : Body Tryz.prog 81:={}
instance : Body Tryz.prog 82:={}
instance : Body Tryz.prog 83:={}
instance : Body Tryz.prog 84:={}
instance : Body Tryz.prog 85:={}
instance : Body Tryz.prog 86:={}
instance : Body Tryz.prog 87:={}
instance : Body Tryz.prog 88:={}
instance : Body Tryz.prog 89:={}
instance : Body Tryz.prog 90:={}
instance : Body Tryz.prog 91:={}
instance : Body Tryz.prog 92:={}
instance : Body Tryz.prog 93:={}
instance : Body Tryz.prog 97:={}
instance : Body Tryz.prog 98:={}
instance : Body Tryz.prog 99:={}
instance : Body Tryz.prog 100:={}
instance : Body Tryz.prog 101:={}
instance : Body Tryz.prog 103:={}
instance : Body Tryz.prog 104:={}
instance : Body Tryz.prog 105:={}
instance : Body Tryz.prog 106:={}
instance : Body Tryz.prog 107:={}
instance : Body Tryz.prog 108:={}
instance : Body Tryz.prog 109:={}
instance : Body Tryz.prog 110:={}
instance : Body Tryz.prog 111:={}
instance : Body Tryz.prog 112:={}
instance : Body Tryz.prog 113:={}
instance : Body Tryz.prog 114:={}
instance : Body Tryz.prog 115:={}
instance : Body Tryz.prog 116:={}
instance : Body Tryz.prog 117:={}
instance : Body Tryz.prog 118:={}
instance : Body Tryz.prog 119:={}
instance : Body Tryz.prog 120:={}
instance : Body Tryz.prog 121:={}
instance : Body Tryz.prog 122:={}
instance : Body Tryz.prog 123:={}
instance : Body Tryz.prog 124:={}
instance : Body Tryz.prog 125:={}
instance : Body Tryz.prog 126:={}
instance : Body Tryz.prog 127:={}
instance : Body Tryz.prog 128:={}
instance : Body Tryz.prog 129:={}
instance : Body Tryz.prog 130:={}
instance : Body Tryz.prog 131:={}
instance : Body Tryz.prog 132:={}
instance : Body Tryz.prog 133:={}
instance : Body Tryz.prog 134:={}
instance : Body Tryz.prog 135:={}
instance : Body Tryz.prog 136:={}
instance : Body Tryz.prog 137:={}
instance : Body Tryz.prog 138:={}
instance : Body Tryz.prog 139:={}
instance : Body Tryz.prog 140:={}
instance : Body Tryz.prog 142:={}
instance : Body Tryz.prog 143:={}
instance : Body Tryz.prog 144:={}
instance : Body Tryz.prog 145:={}
instance : Body Tryz.prog 146:={}
instance : Body Tryz.prog 147:={}
instance : Body Tryz.prog 148:={}
instance : Body Tryz.prog 149:={}
instance : Body Tryz.prog 150:={}
instance : Body Tryz.prog 151:={}
instance : Body Tryz.prog 152:={}
instance : Body Tryz.prog 154:={}
instance : Body Tryz.prog 155:={}
instance : Body Tryz.prog 156:={}
instance : Body Tryz.prog 157:={}
instance : Body Tryz.prog 158:={}
instance : Body Tryz.prog 159:={}
instance : Body Tryz.prog 160:={}
instance : Body Tryz.prog 161:={}
instance : Body Tryz.prog 162:={}
instance : Body Tryz.prog 163:={}
instance : Body Tryz.prog 164:={}
instance : Body Tryz.prog 165:={}
instance : Body Tryz.prog 166:={}
instance : Body Tryz.prog 167:={}
instance : Body Tryz.prog 168:={}
instance : Body Tryz.prog 169:={}
instance : Body Tryz.prog 170:={}
instance : Body Tryz.prog 171:={}
instance : Body Tryz.prog 172:={}
instance : Body Tryz.prog 173:={}
instance : Body Tryz.prog 174:={}
instance : Body Tryz.prog 175:={}
instance : Body Tryz.prog 176:={}
instance : Body Tryz.prog 177:={}
instance : Body Tryz.prog 178:={}
instance : Body Tryz.prog 179:={}
instance : Body Tryz.prog 180:={}
instance : Body Tryz.prog 181:={}
instance : Body Tryz.prog 182:={}
instance : Body Tryz.prog 183:={}
instance : Body Tryz.prog 184:={}
instance : Body Tryz.prog 185:={}
instance : Body Tryz.prog 186:={}
instance : Body Tryz.prog 187:={}
instance : Body Tryz.prog 188:={}
instance : Body Tryz.prog 189:={}
instance : Body Tryz.prog 190:={}
instance : Body Tryz.prog 191:={}
instance : Body Tryz.prog 192:={}
instance : Body Tryz.prog 193:={}
instance : Body Tryz.prog 194:={}
instance : Body Tryz.prog 195:={}
instance : Body Tryz.prog 196:={}
instance : Body Tryz.prog 197:={}
instance : Body Tryz.prog 198:={}
instance : Body Tryz.prog 199:={}
instance : Body Tryz.prog 200:={}
instance : Body Tryz.prog 201:={}
instance : Body Tryz.prog 202:={}
instance : Body Tryz.prog 203:={}
instance : Body Tryz.prog 204:={}
instance : Body Tryz.prog 205:={}
instance : Body Tryz.prog 206:={}
instance : Body Tryz.prog 207:={}
instance : Body Tryz.prog 208:={}
instance : Body Tryz.prog 209:={}
instance : Body Tryz.prog 210:={}
instance : Body Tryz.prog 211:={}
instance : Body Tryz.prog 212:={}
instance : Body Tryz.prog 213:={}
instance : Body Tryz.prog 215:={}
instance : Body Tryz.prog 216:={}
instance : Body Tryz.prog 217:={}
instance : Body Tryz.prog 218:={}
instance : Body Tryz.prog 219:={}
instance : Body Tryz.prog 220:={}
instance : Body Tryz.prog 221:={}
instance : Body Tryz.prog 222:={}
instance : Body Tryz.prog 223:={}
instance : Body Tryz.prog 224:={}
instance : Body Tryz.prog 225:={}
instance : Body Tryz.prog 226:={}
instance : Body Tryz.prog 227:={}
instance : Body Tryz.prog 228:={}
instance : Body Tryz.prog 229:={}
instance : Body Tryz.prog 230:={}
instance : Body Tryz.prog 231:={}
instance : Body Tryz.prog 232:={}
instance : Body Tryz.prog 233:={}
instance : Body Tryz.prog 234:={}
instance : Body Tryz.prog 235:={}
instance : Body Tryz.prog 236:={}
instance : Body Tryz.prog 237:={}
instance : Body Tryz.prog 238:={}
instance : Body Tryz.prog 239:={}
instance : Body Tryz.prog 240:={}
instance : Body Tryz.prog 241:={}
instance : Body Tryz.prog 242:={}
instance : Body Tryz.prog 243:={}
instance : Body Tryz.prog 244:={}
instance : Body Tryz.prog 245:={}
instance : Body Tryz.prog 246:={}
instance : Body Tryz.prog 247:={}
instance : Body Tryz.prog 248:={}
instance : Body Tryz.prog 249:={}
instance : Body Tryz.prog 250:={}
instance : Body Tryz.prog 251:={}
instance : Body Tryz.prog 252:={}
instance : Body Tryz.prog 253:={}
instance : Body Tryz.prog 254:={}
instance : Body Tryz.prog 255:={}
instance : Body Tryz.prog 256:={}
instance : Body Tryz.prog 257:={}
instance : Body Tryz.prog 258:={}
instance : Body Tryz.prog 259:={}
instance : Body Tryz.prog 260:={}
instance : Body Tryz.prog 262:={}
instance : Body Tryz.prog 264:={}
instance : Body Tryz.prog 265:={}
instance : Body Tryz.prog 266:={}
instance : Body Tryz.prog 268:={}
instance : Body Tryz.prog 269:={}
instance : Body Tryz.prog 270:={}
instance : Body Tryz.prog 271:={}
instance : Body Tryz.prog 272:={}
instance : Body Tryz.prog 273:={}
instance : Body Tryz.prog 274:={}
instance : Body Tryz.prog 275:={}
instance : Body Tryz.prog 276:={}
instance : Body Tryz.prog 277:={}
instance : Body Tryz.prog 278:={}
instance : Body Tryz.prog 279:={}
instance : Body Tryz.prog 280:={}
instance : Body Tryz.prog 281:={}
instance : Body Tryz.prog 282:={}
instance : Body Tryz.prog 283:={}
instance : Body Tryz.prog 284:={}
instance : Body Tryz.prog 285:={}
instance : Body Tryz.prog 286:={}
instance : Body Tryz.prog 287:={}
instance : Body Tryz.prog 288:={}
instance : Body Tryz.prog 291:={}
instance : Body Tryz.prog 292:={}
instance : Body Tryz.prog 293:={}
instance : Body Tryz.prog 294:={}
instance : Body Tryz.prog 295:={}
instance : Body Tryz.prog 302:={}
instance : Body Tryz.prog 313:={}
instance : Body Tryz.prog 315:={}
instance : Body Tryz.prog 316:={}
instance : Body Tryz.prog 317:={}
instance : Body Tryz.prog 383:={}
instance : Body Tryz.prog 384:={}
instance : Body Tryz.prog 385:={}
instance : Body Tryz.prog 386:={}
instance : Body Tryz.prog 387:={}
instance : Body Tryz.prog 388:={}
instance : Body Tryz.prog 389:={}
instance : Body Tryz.prog 390:={}
instance : Body Tryz.prog 391:={}
instance : Body Tryz.prog 392:={}
instance : Body Tryz.prog 393:={}
instance : Body Tryz.prog 394:={}
instance : Body Tryz.prog 395:={}
instance : Body Tryz.prog 396:={}
instance : Body Tryz.prog 397:={}
instance : Body Tryz.prog 398:={}
instance : Body Tryz.prog 399:={}
open Go Go.RowKit Go.Wk
theorem Zmi (w:World)(p:Prop)[Decidable p](b:Bool):(if p then Result.ok b w else Result.ok false w)=Result.ok (decide p&&b) w:=by
 by_cases h:p <;> simp[h]
attribute [local irreducible] W RL Does Zaq Zai retQ Calls Pu Stp RD Qy Ay
theorem Zag {α:Type}{xs:List α}{k:Nat}(h:k<xs.length):xs.drop k=xs[k]::xs.drop (k+1):=List.drop_eq_getElem_cons h
theorem Zp2 {α:Type}[DecidableEq α](x y:α)(xs a:List α):decide (x::xs=y::a)=(decide (x=y)&&decide (xs=a)):=by
 rw[Bool.eq_iff_iff];simp
theorem ZtI {α:Type}[DecidableEq α]{xs a:List α}{k:Nat}(b:xs.length<=k)(c:a.length<=k):decide (xs.drop k=a.drop k)=true:=by
 rw[List.drop_eq_nil_of_le b,List.drop_eq_nil_of_le c];simp
theorem ZtJ {α:Type}[DecidableEq α]{xs a:List α}(h:xs.length≠a.length):decide (xs=a)=false:=by
 simp;rintro rfl;exact h rfl
def srcV (Ar Az Al As:Option Addr)(cr cz cl cs:Nat)(s:DSource):Value := .agg #[.slice Ar s.rules.length cr,.slice Az s.zones.length cz,.slice Al s.links.length cl,.slice As s.shifts.length cs]
def memB (x:ByteArray):List ByteArray->Bool
 | []=>false
 | y::l=>decide (y=x)||memB x l
def Zb2 {α:Type}(p:α->Bool):List α->Nat->Int
 | [],_ => -1
 | x::l,k=>if p x then k else Zb2 p l (k+1)
theorem Zru (A:Option Addr)(c:Nat)(l:List ByteArray)(x:ByteArray)(w:World)(g:RdSl w A c ZaR 1 l) :
  Does Tryz.prog 231 [.slice A l.length c,.string x] w (fun v O=>v = .int .i64 (Zb2 (fun y=>decide (x=y)) l 0)/\O=[]):=by
 have j:=g.le
 have i:=g.cap
 unfold maxLen at i
 generalize hres:Zb2 (fun y=>decide (x=y)) l 0=res
 refine Zaa Tryz.func231 rfl rfl rfl rfl ?_
 repeat (refine walk ?_)
 refine Zah [(0,_),(1,_),(4,_),(7,_)] _ (fun k:Nat=>[(8,.int .i64 k)]) (fun _=>[]) (fun k=>k<=l.length/\Zb2 (fun y=>decide (x=y)) (l.drop k) k=res) (fun k=>l.length - k) 0 ⟨rfl,rfl,rfl,rfl,rfl,trivial⟩ (.refl _) ⟨by omega,by simpa using hres⟩ ?_
 rintro k ⟨m,d⟩
 repeat (refine walk ?_)
 refine Zaf rfl (fun e=>?_) (fun e=>?_)
 ·simp only[decide_eq_true_eq,Int.ofNat_lt]at e
  obtain⟨hna,hca⟩:=g.rd k _ (List.getElem?_eq_getElem e)
  have hnb:=hna
  have hcb:=hca
  rw[Zag e,Zb2]at d
  generalize l[k]=p at *
  repeat (first|(apply RL_pu;rfl;exact PuI)|refine walk1 ?_)
  refine Zaf rfl (fun f=>?_) (fun f=>?_)
  ·repeat (refine walk ?_)
   rw[if_pos f]at d
   exact ret_1 _ [] (.tmp rfl) .nil ⟨by rw[<- d],rfl⟩
  repeat (refine walk ?_)
  rw[f]at d
  exact⟨k+1,by omega,⟨by omega,d⟩,SFA,SOA⟩
 simp only[decide_eq_false_iff_not,Int.ofNat_lt]at e
 repeat (refine walk ?_)
 exact ret_1 _ [] (.tmp rfl) .nil ⟨by rw[<- d,List.drop_eq_nil_of_le (by omega)];rfl,rfl⟩
theorem ZmS (x:ByteArray):∀ (l:List ByteArray) (k:Nat),decide (0<=Zb2 (fun y=>decide (x=y)) l k)=memB x l
 | [],k=>by simp[Zb2,memB]
 | y::l,k=>by
  have a:=ZmS x l (k+1)
  simp only[Zb2,memB]
  by_cases h:x=y
  ·subst h;simp
  ·rw[<- a]
   have:¬ y=x:=fun e=>h e.symm
   simp[h,this]
theorem Zla (A:Option Addr)(c:Nat)(l:List ByteArray)(x:ByteArray)(w:World)(a:RdSl w A c ZaR 1 l) :
  Does Tryz.prog 180 [.slice A l.length c,.string x] w (fun v O=>v = .bool (memB x l)/\O=[]):=by
 refine Zaa Tryz.func180 rfl rfl rfl rfl ?_
 repeat (first|(refine js ?_;(refine Zac (fun w' b=>Zru A c l x w' (a.up b)) ?_))|refine walk ?_)
 exact ret_1 _ [] (.tmp rfl) .nil ⟨by rw[ZmS],rfl⟩
theorem Zfj (A:Option Addr)(c:Nat)(l:List DRule)(f:FuncId)[Body Tryz.prog f](us cs:List Value)(p:DRule->Bool)(w:World)(i:RdSl w A c DRule.enc 11 l)
  (m:∀ r w',Bel w.heap.size w w'->Does Tryz.prog f (us++[.agg (DRule.enc r).toArray]++cs) w' (fun v O=>v = .bool (p r)/\O=[])) :
  Does Tryz.prog 269 [.slice A l.length c,.func (.func f) us.toArray cs.toArray] w (fun v O=>v = .int .i64 (Zb2 p l 0)/\O=[]):=by
 have q:=i.le
 have j:=i.cap
 unfold maxLen at j
 generalize hres:Zb2 p l 0=res
 refine Zaa Tryz.func269 rfl rfl rfl rfl ?_
 repeat (refine walk ?_)
 refine Zah [(0,_),(1,_),(4,_),(7,_)] _ (fun k:Nat=>[(8,.int .i64 k)]) (fun _=>[]) (fun k=>k<=l.length/\Zb2 p (l.drop k) k=res) (fun k=>l.length - k) 0 ⟨rfl,rfl,rfl,rfl,rfl,trivial⟩ (.refl _) ⟨by omega,by simpa using hres⟩ ?_
 rintro k ⟨t,d⟩
 repeat (refine walk ?_)
 refine Zaf rfl (fun e=>?_) (fun e=>?_)
 ·simp only[decide_eq_true_eq,Int.ofNat_lt]at e
  obtain⟨hna,hca⟩:=i.rd k _ (List.getElem?_eq_getElem e)
  have hnb:=hna
  have hcb:=hca
  rw[Zag e,Zb2]at d
  generalize l[k]=r at *
  repeat (first|(apply RL_pu;rfl;exact PuI)|(refine js ?_;(refine Zge (fun w' s _=>m r w' s) ?_))|refine walk1 ?_)
  refine Zaf rfl (fun g=>?_) (fun g=>?_)
  ·repeat (refine walk ?_)
   rw[if_pos g]at d
   exact ret_1 _ [] (.tmp rfl) .nil ⟨by rw[<- d],rfl⟩
  repeat (refine walk ?_)
  rw[g]at d
  exact⟨k+1,by omega,⟨by omega,d⟩,SFA,SOA⟩
 simp only[decide_eq_false_iff_not,Int.ofNat_lt]at e
 repeat (refine walk ?_)
 exact ret_1 _ [] (.tmp rfl) .nil ⟨by rw[<- d,List.drop_eq_nil_of_le (by omega)];rfl,rfl⟩
def ofB (l:List DRule)(x:ByteArray):List DRule:=l.filter fun r=>decide (r.name=x)
def ZgZ {α:Type}(e sz:Nat)(enc:α->List Value)(l:List α)(v:Value)(O:List It):Prop:=∃ A c,v = .slice A l.length c/\O=[.row (.slice A l.length c) e sz l.length (l.flatMap enc)]
theorem ZkM (Ar Az Al As:Option Addr)(j q i cs:Nat)(a:DSource)(set:ByteArray)(w:World)(s:Zak w Ar Az Al As j q i cs a)(z:a.rules.length<=1000000) :
  Does Tryz.prog 86 [srcV Ar Az Al As j q i cs a,.string set] w (ZgZ 68 11 DRule.enc (ofB a.rules set)):=by
 generalize hres:ofB a.rules set=res
 refine Zaa Tryz.func86 rfl rfl rfl rfl ?_
 repeat (first|(refine js ?_;(refine bx ?_;intro e))|refine walk ?_)
 refine ZdO 68 11 ?_
 refine Zah [(1,_),(2,_),(4,_)] [_] (fun g:AG DRule=>[(5,.slice g.A g.m g.c),(6,.int .i64 g.k)]) (fun g=>[.row (.slice g.A g.m g.c) 68 11 g.m g.xs]) (fun g=>g.k<=a.rules.length/\g.m=g.acc.length/\g.xs=g.acc.flatMap DRule.enc/\g.m<=g.k/\g.acc++ofB (a.rules.drop g.k) set=res) (fun g=>a.rules.length - g.k) ⟨0,none,0,0,[],[]⟩ ⟨rfl,rfl,rfl,rfl,rfl,trivial⟩ (.refl _) ⟨by simp,rfl,rfl,Nat.le_refl _,by simpa using hres⟩ ?_
 rintro⟨k,A,c,m,xs,acc⟩ ⟨hk,hm,hx,hmk,hi⟩
 dsimp only at hk hm hx hmk hi ⊢
 repeat (first|(refine js ?_;(refine bx ?_;intro e))|refine walk ?_)
 refine Zaf rfl (fun d=>?_) (fun d=>?_)
 ·simp only[decide_eq_true_eq,Int.ofNat_lt]at d
  obtain⟨hna,hca⟩:=s.r.rd k _ (List.getElem?_eq_getElem d)
  have hnb:=hna
  have hcb:=hca
  rw[Zag d,ofB,List.filter_cons]at hi
  generalize a.rules[k]=r at *
  repeat (first|(apply RL_pu;rfl;exact PuI)|refine walk1 ?_)
  refine Zaf rfl (fun f=>?_) (fun f=>?_)
  ·rw[if_pos f]at hi
   repeat (first|(apply RL_pu;rfl;exact PuI)|(refine js ?_;(first|(apply ZaD;rfl;rfl;(intro A' c';(focus repeat' constructor));(intro w' _ t;exact ZbC (t.of (by repeat' constructor)));rfl;rfl;(simp only[maxLen];omega);omega;intro A' c' u x y)|(refine bx ?_;intro e)))|refine walk1 ?_)
   exact⟨⟨k+1,A',c',m+1,xs++r.enc,acc++[r]⟩,OA,⟨OA,by simp[hm],by rw[hx];exact Zb6 acc r,OA,by rw[<- hi];simp[ofB]⟩,SFA,SOA⟩
  rw[f]at hi
  repeat (first|(refine js ?_;(refine bx ?_;intro e))|refine walk ?_)
  exact⟨⟨k+1,A,c,m,xs,acc⟩,OA,⟨OA,hm,hx,OA,hi⟩,SFA,SOA⟩
 simp only[decide_eq_false_iff_not,Int.ofNat_lt]at d
 rw[List.drop_eq_nil_of_le (by omega)]at hi
 simp only[ofB,List.filter_nil,List.append_nil]at hi
 subst hi
 repeat (first|(refine js ?_;(refine bx ?_;intro e))|refine walk ?_)
 exact ret_1 _ [.row (.slice A acc.length c) 68 11 acc.length (acc.flatMap DRule.enc)] (.tmp rfl) (by subst hm hx;exact SOA) ⟨A,c,by rw[hm],rfl⟩
def ZbI:List DRule->List ByteArray->List ByteArray
 | [],acc=>acc
 | r::l,acc=>if memB r.name acc then ZbI l acc else ZbI l (acc++[r.name])
theorem Zmt (x y:ByteArray):∀ l:List ByteArray,memB x (l++[y])=(memB x l||decide (y=x))
 | []=>by simp[memB]
 | z::l=>by simp[memB,Zmt x y l,Bool.or_assoc]
theorem ZdR {G G':Prop}(k:G')(h:Hold G'->G:=by intro k9;(first|refine walk ?_|(refine jn ?_;(try intro F);(apply Zam;exact PuA);refine fin ?_));exact k9.out):G:=h ⟨k⟩
theorem ZAL {G:Prop}(h:G:=by(first|exact PuI|(apply ZcM;rfl;(focus repeat' constructor);exact hg))):G:=h
theorem ZAA {G:Prop}(h:G:=by first|(apply Qy_y;rfl;exact ZAL)|exact QyA):G:=h
theorem ZAB {G:Prop}(h:G:=by repeat (exact QF.nil)):G:=h
theorem Zn4 (Ar Az Al As:Option Addr)(z D x cs:Nat)(a:DSource)(w:World)(E:Zak w Ar Az Al As z D x cs a)(J:a.rules.length<=1000000) :
  Does Tryz.prog 187 [srcV Ar Az Al As z D x cs a] w (ZgZ 9 1 ZaR (ZbI a.rules [])):=by
 generalize hres:ZbI a.rules []=res
 refine Zaa Tryz.func187 rfl rfl rfl rfl ?_
 repeat (first|refine ZdR ?_|(refine jn ?_;(try intro F);(refine bx ?_;intro d);refine fin ?_))
 refine ZdO 9 1 ?_
 refine Zah [(1,_),(2,_)] [_] (fun g:AG ByteArray=>[(3,.slice g.A g.m g.c),(4,.int .i64 g.k)]) (fun g=>[.row (.slice g.A g.m g.c) 9 1 g.m g.xs]) (fun g=>g.k<=a.rules.length/\g.m=g.acc.length/\g.xs=g.acc.flatMap ZaR/\g.m<=g.k/\ZbI (a.rules.drop g.k) g.acc=res) (fun g=>a.rules.length - g.k) ⟨0,none,0,0,[],[]⟩ ⟨rfl,rfl,rfl,rfl,trivial⟩ (.refl _) ⟨by simp,rfl,rfl,Nat.le_refl _,by simpa using hres⟩ ?_
 rintro⟨k,A,c,m,xs,acc⟩ ⟨hk,hm,hx,hmk,hi⟩
 dsimp only at hk hm hx hmk hi ⊢
 repeat (first|refine ZdR ?_|(refine jn ?_;(try intro F);(refine bx ?_;intro d);refine fin ?_))
 refine Zaf rfl (fun q=>?_) (fun q=>?_)
 ·simp only[decide_eq_true_eq,Int.ofNat_lt]at q
  obtain⟨hna,hca⟩:=E.r.rd k _ (List.getElem?_eq_getElem q)
  rw[Zag q,ZbI]at hi
  generalize a.rules[k]=r at *
  repeat (first|refine ZdR ?_|(refine jn ?_;(try intro F);(refine bx ?_;intro d);refine fin ?_))
  refine Zah [(1,_),(2,_),(3,_),(4,_)] [_,_] (fun g:Nat × Bool=>[(5,.bool g.2),(6,.int .i64 g.1)]) (fun _=>[]) (fun g=>g.1<=m/\(g.2||memB r.name (acc.drop g.1))=memB r.name acc) (fun g=>m - g.1) (0,false) ⟨rfl,rfl,rfl,rfl,rfl,rfl,trivial⟩ (.refl _) ⟨by omega,by simp⟩ ?_
  rintro⟨j,seen⟩ ⟨hj,hij⟩
  dsimp only at hj hij ⊢
  repeat (first|refine ZdR ?_|(refine jn ?_;(try intro F);(refine bx ?_;intro d);refine fin ?_))
  refine Zaf rfl (fun e=>?_) (fun e=>?_)
  ·simp only[decide_eq_true_eq,Int.ofNat_lt]at e
   have s:j<acc.length:=by omega
   refine ZBF (fun w' _ u=>ZpK (u.of (by repeat' constructor)) (by omega)) (fun hnb=>?_)
   rw[Zag s,memB]at hij
   have hg:xs[(j:Int).toNat*1]?=some (.string acc[j]):=by
    rw[hx]
    exact ZaC ZaR.len acc j _ 0 _ (List.getElem?_eq_getElem s) rfl
   generalize acc[j]=y at *
   repeat (first|refine ZdR ?_|(refine jn ?_;(try intro F);(refine bx ?_;intro d);refine fin ?_))
   refine Zqi 21 rfl (fun t=>?_) (fun t=>?_)
   ·repeat (first|refine ZdR ?_|(refine jn ?_;(try intro F);(refine bx ?_;intro d);refine fin ?_))
    exact⟨(j+1,true),OA,⟨OA,by rw[<- hij,t];simp⟩,SFA,SOA⟩
   have hcb:=hca
   repeat (first|(apply RD_Q;rfl;rfl;decide +kernel;rfl;rfl;exact ZAA)|refine walk1 ?_|(refine jn ?_;(try intro F);(first|(refine bx ?_;intro d)|(apply Zam;exact PuA));first|refine⟨_,EndsA,ZAB,?_⟩|refine fin ?_))
   exact⟨(j+1,decide (y=r.name)),OA,⟨OA,by rw[<- hij,t];simp⟩,SFA,SOA⟩
  simp only[decide_eq_false_iff_not,Int.ofNat_lt]at e
  rw[List.drop_eq_nil_of_le (by omega)]at hij
  simp only[memB,Bool.or_false]at hij
  repeat (first|refine ZdR ?_|(refine jn ?_;(try intro F);(refine bx ?_;intro d);refine fin ?_))
  refine Zaf rfl (fun f=>?_) (fun f=>?_)
  ·have hnb:=hna
   have hcb:=hca
   simp only[Bool.not_eq_true']at f
   rw[<- hij,f]at hi
   repeat (first|(apply RL_pu;rfl;exact PuI)|refine walk1 ?_|(refine jn ?_;(try intro F);(first|(apply ZaD;rfl;rfl;(intro A' c';(focus repeat' constructor));(intro w' _ u;exact ZbC (u.of (by repeat' constructor)));rfl;rfl;(simp only[maxLen];omega);omega;intro A' c' H e I)|(refine bx ?_;intro d));first|refine⟨_,EndsA,QFI,?_⟩|refine fin ?_))
   exact⟨⟨k+1,A',c',m+1,xs++ZaR r.name,acc++[r.name]⟩,OA,⟨OA,by simp[hm],by rw[hx];exact Zb6 acc r.name,OA,by rw[<- hi];simp⟩,SFA,SOA⟩
  simp only[Bool.not_eq_false']at f
  rw[<- hij,f]at hi
  repeat (first|refine ZdR ?_|(refine jn ?_;(try intro F);(refine bx ?_;intro d);refine fin ?_))
  exact⟨⟨k+1,A,c,m,xs,acc⟩,OA,⟨OA,hm,hx,OA,by rw[<- hi];simp⟩,SFA,SOA⟩
 simp only[decide_eq_false_iff_not,Int.ofNat_lt]at q
 rw[List.drop_eq_nil_of_le (by omega),ZbI]at hi
 subst hi
 repeat (first|refine ZdR ?_|(refine jn ?_;(try intro F);(refine bx ?_;intro d);refine fin ?_))
 exact ret_1 _ [.row (.slice A acc.length c) 9 1 acc.length (acc.flatMap ZaR)] (.tmp rfl) (by subst hm hx;exact SOA) ⟨A,c,by rw[hm],rfl⟩
end Go.Proofs.YtpipekfmecikmaaGreatDoor
namespace Go.Proofs.YtpipekfmecikmaaGreatDoor
open Go Go.RowKit Go.Wk
def ZaI (x:ByteArray):List DZone->Nat->Option Nat
 | [],_=>none
 | z::l,k=>if z.name=x then some k else ZaI x l (k+1)
def ZaN (x:ByteArray):List DLink->Nat->Option Nat
 | [],_=>none
 | z::l,k=>if z.name=x then some k else ZaN x l (k+1)
def ZaH (s:DSource):Nat->List ByteArray->ByteArray->Nat × Int
 | 0,_,_=>(0,11)
 | fuel+1,seen,x =>
  match ZaI x s.zones 0 with
  | some i=>(i,0)
  | none=>match ZaN x s.links 0 with
   | none=>(0,9)
   | some i=>if memB x seen then (0,11) else ZaH s fuel (x::seen) ((s.links[i]?).map (·.target) |>.getD ByteArray.empty)
def Za6 (s:DSource):List DZone->Nat->Option (Zap × Int)
 | [],_=>none
 | z::l,i=>if Zfb z.name=false then some (⟨2,i,0⟩,9) else if ZaI z.name s.zones 0≠some i then some (⟨2,i,0⟩,10) else Za6 s l (i+1)
def Zbm (s:DSource):List DLink->Nat->Option (Zap × Int)
 | [],_=>none
 | l::ls,i =>
  if Zfb l.name=false then some (⟨3,i,0⟩,9)
  else if (ZaI l.name s.zones 0).isSome\/ZaN l.name s.links 0≠some i then some (⟨3,i,0⟩,10)
  else if (ZaI l.target s.zones 0).isNone/\(ZaN l.target s.links 0).isNone then some (⟨3,i,0⟩,9)
  else Zbm s ls (i+1)
def Zbl (s:DSource):List DLink->Nat->Option (Zap × Int)
 | [],_=>none
 | l::ls,i=>if (ZaH s (s.links.length+1) [] l.name).2=11 then some (⟨3,i,0⟩,11) else Zbl s ls (i+1)
def Zde (s:DSource):Option (Zap × Int):=(Za6 s s.zones 0).or ((Zbm s s.links 0).or (Zbl s s.links 0))
def insE (e:Zab):List Zab->List Zab
 | []=>[e]
 | x::l=>if ordE x e<0 then e::x::l else x::insE e l
def Zkv (least y:Int):List DRule->Nat->List Zab->List Zab
 | [],_,acc=>acc
 | r::l,i,acc=>Zkv least y l (i+1) (match onR least r i y with|some e=>insE e acc|none=>acc)
def Zc3 (l:List DRule)(least from_:Int):Nat->List Zab
 | 0=>[]
 | k+1=>Zkv least (from_+k) l 0 (Zc3 l least from_ k)
def ZeQ:List Zab->Option Zab
 | []=>none
 | [_]=>none
 | a::b::l=>(ZeQ (b::l)).or (if a.nominal - b.nominal<259200 then some a else none)
def Zeh (l:List DRule):Option Zab:=ZeQ (Zc3 l (Zae l) 1850 701)
def evIn (least nominal:Int)(r:DRule)(i y:Int):Nat->Option Zab
 | 0=>none
 | k+1=>match onR least r i y with
  | some e=>if nominal<e.nominal then some e else evIn least nominal r i (y+1) k
  | none=>evIn least nominal r i (y+1) k
def ZaX (least nominal yr:Int):List DRule->Nat->Option Zab->Option Zab
 | [],_,best=>best
 | r::l,i,best =>
  ZaX least nominal yr l (i+1) (match evIn least nominal r i (max (max r.from_ (-2000000000)) (yr - 2)) 20 with
   | none=>best
   | some e=>match best with|none=>some e|some b=>if ordE e b<0 then some e else some b)
def Zbx (l:List DRule)(nominal:Int):Option Zab:=ZaX (Zae l) nominal (Zay nominal) l 0 none
def farD (l:List DRule)(nominal:Int):Bool :=
 match Zbx l (nominal - 259200) with
 | none=>true
 | some e=>decide (259200<=e.nominal - nominal)
def Zda (s:DSource):Option (Zap × Int) :=
 if 2000<s.rules.length then some (⟨1,2000,0⟩,7)
 else if 500<s.zones.length then some (⟨2,500,0⟩,7)
 else match s.zones.findIdx? fun z=>decide (60<z.eras.length) with
  | some i=>some (⟨2,i,60⟩,7)
  | none=>if 1000<s.links.length then some (⟨3,1000,0⟩,7) else if 2000<s.shifts.length then some (⟨4,2000,0⟩,7) else none
def Zb5 (set:ByteArray):List DRule->Nat->Nat->Zap
 | [],_,_=>⟨0,0,0⟩
 | r::l,i,k=>if r.name=set then (match i with|0=>⟨1,k,0⟩|i+1=>Zb5 set l i (k+1)) else Zb5 set l i (k+1)
def Zb4 (rs:List DRule)(x:ByteArray):Option (Nat × Int) :=
 if setB x=false then some (0,9)
 else if (Zcw (ofB rs x)).2≠0 then some (Zcw (ofB rs x))
 else match Zeh (ofB rs x) with|some e=>some (e.rule.toNat,13)|none=>none
def ZcC (rs:List DRule):List ByteArray->Option (Zap × Int)
 | []=>none
 | x::l=>match Zb4 rs x with|some (i,e)=>some (Zb5 x rs i 0,e)|none=>ZcC rs l
def Zfc (s:DSource):Option (Zap × Int):=ZcC s.rules (ZbI s.rules [])
def ZaZ (s:DSource):List ByteArray->List ByteArray->Nat->Option (Zap × Int)
 | [],_,_=>none
 | x::l,seen,i =>
  let r:=ofB s.rules x
  if r=[] then some (⟨4,i,0⟩,9)
  else if memB x seen then some (⟨4,i,0⟩,10)
  else if Zae r≠0\/(ZbV r).2=false then some (⟨4,i,0⟩,14)
  else ZaZ s l (seen++[x]) (i+1)
def ZaA (rs:List DRule)(e:DEra):List DRule:=if e.kind=2 then ofB rs e.set else []
def ZaB (rs:List DRule)(e:DEra):List (Int × ByteArray):=if e.kind=1 then [(e.save,ByteArray.empty)] else if e.kind=2 then (ZaA rs e).map fun r=>(r.save,r.letter) else [(0,ByteArray.empty)]
def Za0 (off save:Int):Bool:=decide (-54000<=off+save)&&decide (off+save<=54000)
def dU0:DUntil:=⟨false,0,0,⟨0,0,0⟩,⟨0,0⟩⟩
def Zdl (e:DEra):Bool:=(!decide (e.kind=1)&&!decide (e.save=0))||(!decide (e.kind=2)&&!decide (e.set=ByteArray.empty))||(!e.til.is&&!decide ({ e.til with is:=false }=dU0))
def Zdi (rs:List DRule)(e:DEra)(first:Bool):Int :=
 if e.kind<0\/2<e.kind then 2
 else if first=true/\e.kind=2 then 12
 else if e.kind=2/\ZaA rs e=[] then 9
 else if e.kind=1/\(e.save<1\/10800<e.save) then 14
 else if Za0 e.off 0=false\/((ZaB rs e).any fun x => !Za0 e.off x.1)=true then 3
 else if Zdl e then 2
 else Zeg e (ZaA rs e)
def dE0:DEra:=⟨0,0,0,ByteArray.empty,ByteArray.empty,dU0⟩
def Zc1 (rs:List DRule)(l:List DEra)(k:Nat):Int :=
 let e:=l.getD k dE0
 if e.til.is≠decide (k+1<l.length) then 12
 else if e.til.is=false then 0
 else
  let least:=Zae (ZaA rs e)
  if ZaE e.til least≠0 then ZaE e.til least
  else
   let n:=(Zan e.til least).1
   let b:=l.getD (k - 1) dE0
   if 0<k/\((Zan b.til (Zae (ZaA rs b))).2≠0\/n - (Zan b.til (Zae (ZaA rs b))).1<259200) then 12
   else if e.kind=2/\farD (ZaA rs e) n=false then 13
   else 0
def addP (x:Int × List UInt8)(l:List (Int × List UInt8)):List (Int × List UInt8):=if x∈l then l else l++[x]
def addA (x:List UInt8)(l:List (List UInt8)):List (List UInt8):=if x∈l then l else l++[x]
def stGo (e:DEra):List (Int × ByteArray)->List (Int × List UInt8) × List (List UInt8)->List (Int × List UInt8) × List (List UInt8)
 | [],acc=>acc
 | x::l,acc =>
  let a:=(Zds e.format.data.toList e.off x.1 x.2.data.toList).1
  stGo e l (addP (e.off+x.1,a) acc.1,addA a acc.2)
def erGo (rs:List DRule):List DEra->List (Int × List UInt8) × List (List UInt8)->List (Int × List UInt8) × List (List UInt8)
 | [],acc=>acc
 | e::l,acc=>erGo rs l (stGo e (ZaB rs e) acc)
def Zc5:List (List UInt8)->Nat
 | []=>0
 | x::l=>x.length+1+Zc5 l
def ZeM (rs:List DRule)(z:DZone):Bool:=decide ((erGo rs z.eras ([],[])).1.length<=120)&&decide (Zc5 (erGo rs z.eras ([],[])).2<=250)
def Zb7 (rs:List DRule)(l:List DEra)(i:Nat):Nat->Nat->Option (Zap × Int)
 | 0,_=>none
 | f+1,k =>
  if Zdi rs (l.getD k dE0) (decide (k=0))≠0 then some (⟨2,i,k⟩,Zdi rs (l.getD k dE0) (decide (k=0)))
  else if Zc1 rs l k≠0 then some (⟨2,i,k⟩,Zc1 rs l k)
  else Zb7 rs l i f (k+1)
def Zbc (rs:List DRule):List DZone->Nat->Option (Zap × Int)
 | [],_=>none
 | z::l,i =>
  if z.eras=[] then some (⟨2,i,0⟩,4)
  else match Zb7 rs z.eras i z.eras.length 0 with
   | some x=>some x
   | none=>if ZeM rs z=false then some (⟨2,i,0⟩,7) else Zbc rs l (i+1)
def accD (s:DSource):Option (Zap × Int):=(Zda s).or ((Zfc s).or ((ZaZ s s.shifts [] 0).or ((Zde s).or (Zbc s.rules s.zones 0))))
end Go.Proofs.YtpipekfmecikmaaGreatDoor
