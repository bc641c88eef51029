/- Parts of the proof. -/
import Derived.Test.YtpipekfmecikmaaGreatDoorA04
import Derived.Test.YtpipekfmecikmaaGreatDoorProg
set_option maxHeartbeats 0
set_option linter.all false
namespace Go.Wk
open Go Go.RowKit
structure Hold (p:Prop):Prop where
 out:p
theorem NfA {l l':List Value}(h:Nf l l':=by repeat (first|exact Go.Wk.Nf.nil|apply Go.Wk.Nf.cons)):Nf l l':=h
theorem SFA {a b:Fr}(h:Sub a b:=by repeat (first|exact trivial|refine⟨rfl,?_⟩)):Sub a b:=h
theorem SOA {a b:List It}(h:SubO a b:=by first|exact .refl _|(repeat (first|exact Go.Wk.SubO.nil|(apply Go.Wk.SubO.cons;focus repeat' constructor)))):SubO a b:=h
theorem STA {a b:List It}(h:SubO a b:=by repeat (first|exact Go.Wk.SubO.nil|(apply Go.Wk.SubO.cons;(focus repeat' constructor))|exact .refl _|apply Go.Wk.SubO.drop)):SubO a b:=h
theorem stA {G G':Prop}(k:G')(h:Hold G'->G:=by intro k;(first|(apply Go.Wk.Stp_storeNf;rfl;rfl;(focus repeat' constructor);exact Go.Wk.NfA;rfl;rfl;rfl;(focus repeat' constructor))|(apply Go.Wk.Stp_mapUpdate;rfl;rfl;rfl;(focus repeat' constructor)));exact k.out):G:=h ⟨k⟩
theorem OA {p:Prop}(h:p:=by first|omega|(dsimp only;omega)):p:=h
section
variable {P:Program}{n:Nat}{wr:World}{fr:Fr}{O:List It}{ty:TypeId}{pos:String}{af:Array Edge}{f:FuncId}{xs:List Operand}{ts:Array TypeId}{us vs cs:List Value}{dst:Option Tmp}{g:Option (Nat × Bool)}{x:Value}{gx:Operand}{Kp:Value->List It->Prop}[Body P f]
theorem ZaH (h:∀ w,Bel wr.heap.size wr w->Zaz wr.heap.size O w->Does P f vs w (fun v O=>v=x/\O=[]))(k:Kp x ([]++O))(hx:evsO fr xs=some vs:=by rfl):Stp P n wr fr O ⟨dst,.call ⟨.value (.func f),xs.toArray,ts⟩,ty,pos,af,g⟩ Kp :=
 Zad hx h (by rintro v O' ⟨rfl,rfl⟩;exact k)
theorem Zab (h:∀ w,Bel wr.heap.size wr w->Does P f vs w (fun v O=>v=x/\O=[]))(k:Kp x ([]++O))(hx:evsO fr xs=some vs:=by rfl):Stp P n wr fr O ⟨dst,.call ⟨.value (.func f),xs.toArray,ts⟩,ty,pos,af,g⟩ Kp :=
 ZaH (fun w a _=>h w a) k hx
theorem ZdT (h:∀ w,Bel wr.heap.size wr w->Zaz wr.heap.size O w->Does P f (us++vs++cs) w (fun v O=>v=x/\O=[]))(k:Kp x ([]++O))(hg:ev fr gx=some (.func (.func f) us.toArray cs.toArray):=by rfl)(hx:evsO fr xs=some vs:=by rfl):Stp P n wr fr O ⟨dst,.call ⟨.value gx,xs.toArray,ts⟩,ty,pos,af,g⟩ Kp :=
 Zax hg hx h (by rintro v O' ⟨rfl,rfl⟩;exact k)
end
theorem clo1 {G:Prop}(h:G:=by first|(refine Go.Wk.ret_1 _ [] (.tmp rfl) .nil ⟨?_,rfl⟩;first|rfl|(simp only[*,Bool.true_and,Bool.false_and,Bool.true_or,Bool.false_or,Bool.not_true,Bool.not_false];done)|(simp_all;done)|(simp_all;omega)|(simp_all;rw[Bool.eq_iff_iff];simp;omega))|(exfalso;simp_all;done)|(exfalso;simp_all;omega)|(exfalso;omega)):G:=h
theorem clo2 {G:Prop}(h:G:=by first|(refine Go.Wk.ret_2 _ _ [] (.tmp rfl) (.tmp rfl) .nil ⟨?_,rfl⟩;first|rfl|(simp only[*,Bool.true_and,Bool.false_and,Bool.true_or,Bool.false_or,Bool.not_true,Bool.not_false];done)|(simp_all;done)|(simp_all;omega)|(simp_all;rw[Bool.eq_iff_iff];simp;omega))|(exfalso;simp_all;done)|(exfalso;simp_all;omega)|(exfalso;omega)):G:=h
theorem rtA {G:Prop}(h:G:=by exact Go.Wk.ret_1 _ [] (.tmp rfl) .nil ⟨rfl,rfl⟩):G:=h
theorem rtB {G:Prop}(h:G:=by exact Go.Wk.ret_2 _ _ [] (.tmp rfl) (.tmp rfl) .nil ⟨rfl,rfl⟩):G:=h
theorem rtC {G:Prop}(h:G:=by exact Go.Wk.ret_2 _ _ [] (.cellB rfl cS_ rfl rfl) (.tmp rfl) .nil ⟨rfl,rfl⟩):G:=h
theorem PuI {G:Prop}(h:G:=by first|(apply Go.Wk.Pu_indexAddr;rfl;rfl;omega;omega;(first|exact hna|exact hnb))|(apply Go.Wk.Pu_loadON;rfl;(first|exact hca|exact hcb);rfl)|(apply Go.Wk.Pu_loadO1';rfl;(first|exact hca|exact hcb);rfl)|(apply Go.Wk.Pu_loadO1;rfl;(first|exact hca 0 _ rfl|exact hcb 0 _ rfl))):G:=h
theorem und {G G':Prop}(k:G')(h:Hold G'->G:=by intro k;exact Go.Wk.RL_und rfl rfl rfl rfl k.out):G:=h ⟨k⟩
theorem RLid {P:Program}{n:Nat}{wr:World}{ops:Array Oper}{a:List Oper}{K:Fr->List It->Prop}{fr:Fr}{O:List It}(h:RL P n wr ops a K fr O):RL P n wr ops a K fr O:=h
theorem bx {G G':Prop}(k:G')(h:Hold G'->G:=by intro k;(first|(apply Go.Wk.Stp_boxNf;rfl;exact Go.Wk.NfA;exact k.out)|(apply Go.Wk.Stp_alloc;exact k.out)|(apply Go.Wk.Stp_buildSlice0;exact k.out)|(apply Go.Wk.Stp_buildSliceC;rfl;rfl;rfl;rfl;exact Go.Wk.NfA;exact k.out)|(apply Go.Wk.Stp_buildSliceNf;rfl;rfl;rfl;exact Go.Wk.NfA;exact k.out)|(apply Go.Wk.Stp_makeMap;exact k.out))):G:=h ⟨k⟩
section
variable {P:Program}{n:Nat}{wr:World}{ops:Array Oper}{rest:List Oper}{K:Fr->List It->Prop}{fr:Fr}{O:List It}{ty:TypeId}{pos:String}{af:Array Edge}{d:Nat}
theorem PuA {op:Op}{v:Value}(h:Pu P n wr fr O op ty v:=by(first|(apply Go.Wk.Pu_move;rfl)|(apply Go.Wk.Pu_assign;rfl)|(apply Go.Wk.Pu_pickT;rfl;rfl)|(apply Go.Wk.Pu_pickF;rfl;rfl)|(apply Go.Wk.Pu_fieldAddr0;rfl)|(apply Go.Wk.Pu_fieldAddr;rfl)|(apply Go.Wk.Pu_loadNf;rfl;(focus repeat' constructor);exact Go.Wk.NfA;rfl)|(apply Go.Wk.Pu_loadB1;rfl;(focus repeat' constructor);rfl)|(apply Go.Wk.Pu_field1;rfl;rfl)|(apply Go.Wk.Pu_fieldNf;rfl;exact Go.Wk.NfA)|(apply Go.Wk.Pu_extract;rfl;rfl)|(apply Go.Wk.Pu_buildNf;rfl;rfl;exact Go.Wk.NfA)|(apply Go.Wk.Pu_nilCheck;rfl)|(apply Go.Wk.Pu_nilCheckF;rfl)|(apply Go.Wk.Pu_makeFunc;rfl;rfl)|(apply Go.Wk.Pu_lookup;rfl;rfl;(focus repeat' constructor))|(apply Go.Wk.Pu_lookupOk;rfl;rfl;(focus repeat' constructor))|(apply Go.Wk.Pu_not;rfl)|(apply Go.Wk.Pu_negW;rfl)|(apply Go.Wk.Pu_conv64;rfl;(constructor <;> omega))|(apply Go.Wk.Pu_convI;rfl)|(apply Go.Wk.Pu_lss;rfl;rfl)|(apply Go.Wk.Pu_leq;rfl;rfl)|(apply Go.Wk.Pu_gtr;rfl;rfl)|(apply Go.Wk.Pu_geq;rfl;rfl)|(apply Go.Wk.Pu_eql;rfl;rfl)|(apply Go.Wk.Pu_neq;rfl;rfl)|(apply Go.Wk.Pu_remE;rfl;rfl;omega;omega)|(apply Go.Wk.Pu_rem;rfl;rfl;(first|decide|omega))|(apply Go.Wk.Pu_quo8;rfl;rfl;omega;omega;omega)|(apply Go.Wk.Pu_quo16;rfl;rfl;omega;omega;omega)|(apply Go.Wk.Pu_quo64;rfl;rfl;omega;omega;omega)|(apply Go.Wk.Pu_quo;rfl;rfl;(first|decide|omega))|(apply Go.Wk.Pu_loadLit;rfl;(focus repeat' constructor);rfl;(simp only[Go.Wk.lay_length,Go.Wk.sliceZ_len,List.length_cons,List.length_nil];omega))|(apply Go.Wk.Pu_indexAddr;rfl;rfl;omega;omega;nofun)|(apply Go.Wk.Pu_add;rfl;rfl;(constructor <;> omega))|(apply Go.Wk.Pu_sub';rfl;rfl;(constructor <;> omega))|(apply Go.Wk.Pu_eqlS;rfl;rfl)|(apply Go.Wk.Pu_neqS;rfl;rfl)|(apply Go.Wk.Pu_lssS;rfl;rfl)|(apply Go.Wk.Pu_eqB;rfl;rfl)|(apply Go.Wk.Pu_neqB;rfl;rfl)|(apply Go.Wk.Pu_eqNil;rfl)|(apply Go.Wk.Pu_sliceH;rfl;rfl;omega;omega)|(apply Go.Wk.Pu_capL;rfl)|(apply Go.Wk.Pu_lenL;rfl)|(apply Go.Wk.Pu_lenS;rfl)|(apply Go.Wk.Pu_lenMap;rfl;(focus repeat' constructor))|(apply Go.Wk.Pu_eqlE;rfl;rfl)|(apply Go.Wk.Pu_neqE;rfl;rfl))):Pu P n wr fr O op ty v:=h
theorem QyA {o:Oper}{v:Value}(h:Qy P n wr ops fr O o v:=by(first|(apply Go.Wk.Qy_y;rfl;exact Go.Wk.PuA)|(apply Go.Wk.Qy_n;rfl))):Qy P n wr ops fr O o v:=h
theorem QFA {V:List Qp}(h:QF P n wr ops fr O V:=by repeat (first|exact Go.Wk.QF.nil|(apply Go.Wk.QF.mk;rfl;rfl;decide +kernel;exact Go.Wk.QyA))):QF P n wr ops fr O V:=h
theorem QyI {G:Prop}(h:G:=by first|(apply Go.Wk.Qy_y;rfl;exact Go.Wk.PuI)|exact Go.Wk.QyA):G:=h
theorem QFI {G:Prop}(h:G:=by repeat (first|exact Go.Wk.QF.nil|(apply Go.Wk.QF.mk;rfl;rfl;decide +kernel;exact Go.Wk.QyI))):G:=h
theorem walk1 {G G':Prop}(k:G')(h:Hold G'->G:=by intro k;(first|(apply Go.Wk.RL_pu;rfl;exact Go.Wk.PuA)|(apply Go.Wk.RL_st0;refine Go.Wk.stA ?_)|apply Go.Wk.W_seq|apply Go.Wk.W_region|apply Go.Wk.RL_nil|apply Go.Wk.thenQ_n|apply Go.Wk.W_block|apply Go.Wk.W_skip|apply Go.Wk.W_ret|apply Go.Wk.W_exit|apply Go.Wk.thenQ_r|apply Go.Wk.thenQ_e|apply Go.Wk.blockQ_n|apply Go.Wk.blockQ_r|apply Go.Wk.blockQ_hit|(apply Go.Wk.blockQ_miss;rfl)|(apply Go.Wk.W_true;rfl)|(apply Go.Wk.W_false;rfl)|(apply Go.Wk.RL_yes;rfl;rfl;rfl)|(apply Go.Wk.RL_no;rfl;rfl;rfl;rfl;rfl)|(apply Go.Wk.W_draw;rfl;decide +kernel)|apply Go.Wk.RD_done|(apply Go.Wk.RD_Q;rfl;rfl;decide +kernel;rfl;rfl;exact Go.Wk.QyA)|(apply Go.Wk.RD_N;rfl;rfl;decide +kernel;rfl;rfl;rfl)|(apply Go.Wk.RD_A;rfl;rfl;decide +kernel;rfl;rfl;first|exact Go.Wk.Ay_alloc|exact Go.Wk.Ay_buildSlice0|(apply Go.Wk.Ay_buildSliceC;rfl;rfl;rfl;rfl;exact Go.Wk.NfA)|(apply Go.Wk.Ay_buildSliceNf;rfl;rfl;rfl;exact Go.Wk.NfA)));exact k.out):G:=h ⟨k⟩
theorem walk {G G':Prop}(k:G')(h:Hold G'->G:=by intro k;refine Go.Wk.walk1 ?_;(repeat refine Go.Wk.walk1 ?_);exact k.out):G:=h ⟨k⟩
theorem walk0a {G G':Prop}(k:G')(h:Hold G'->G:=by intro k;(first|(apply Go.Wk.RL_pu;rfl;exact Go.Wk.PuA)|(apply Go.Wk.RL_st0;refine Go.Wk.stA ?_)|apply Go.Wk.W_seq|apply Go.Wk.W_region|apply Go.Wk.RL_nil|apply Go.Wk.thenQ_n|apply Go.Wk.W_block|apply Go.Wk.W_skip|apply Go.Wk.W_ret|apply Go.Wk.W_exit|apply Go.Wk.thenQ_r|apply Go.Wk.thenQ_e|apply Go.Wk.blockQ_n|apply Go.Wk.blockQ_r|apply Go.Wk.blockQ_hit|(apply Go.Wk.blockQ_miss;rfl)|(apply Go.Wk.W_true;rfl)|(apply Go.Wk.W_false;rfl)|(apply Go.Wk.RL_yes;rfl;rfl;rfl)|(apply Go.Wk.RL_no;rfl;rfl;rfl;rfl;rfl)|apply Go.Wk.RD_done|(apply Go.Wk.RD_Q;rfl;rfl;decide +kernel;rfl;rfl;exact Go.Wk.QyA)|(apply Go.Wk.RD_N;rfl;rfl;decide +kernel;rfl;rfl;rfl)|(apply Go.Wk.RD_A;rfl;rfl;decide +kernel;rfl;rfl;first|exact Go.Wk.Ay_alloc|exact Go.Wk.Ay_buildSlice0|(apply Go.Wk.Ay_buildSliceC;rfl;rfl;rfl;rfl;exact Go.Wk.NfA)|(apply Go.Wk.Ay_buildSliceNf;rfl;rfl;rfl;exact Go.Wk.NfA)));exact k.out):G:=h ⟨k⟩
theorem ZAa {G G':Prop}(k:G')(h:Hold G'->G:=by intro k;refine Go.Wk.walk0a ?_;(repeat refine Go.Wk.walk0a ?_);exact k.out):G:=h ⟨k⟩
theorem EndsA {A B C:List It}(h:Ends A B C:=by repeat (first|exact Go.Wk.Ends.nil|apply Go.Wk.Ends.cons|exact Go.Wk.Ends.app)):Ends A B C:=h
theorem RD_Lw {todo:List (Nat × Oper)}{V V':List Qp}{Al:List Ap}{i:Nat}{o:Oper}(a:∀ F,Stp P n wr fr (O++F) o fun v O'=>∃ O'',Ends O' F O''/\QF P n wr ops (updF fr o.dst v) O'' V'/\RD P n wr ops todo V' Al K (updF fr o.dst v) O'')
  (hV:Filt ops i V V':=by repeat (first|exact Go.Wk.Filt.nil|(apply Go.Wk.Filt.drop;rfl)|(apply Go.Wk.Filt.dropT;rfl)|(apply Go.Wk.Filt.keep;rfl))) (hok:okL n ops fr ((i,o)::todo) todo o=true:=by rfl) (hal:alOk n fr o.dst Al=true:=by rfl):RD P n wr ops ((i,o)::todo) V Al K fr O:=RD_L hok hal hV a
theorem jn {G G':Prop}(k:G')(h:Hold G'->G:=by intro k;(first|(apply Go.Wk.RL_st0;exact k.out)|(apply Go.Wk.RL_st;rfl;exact k.out)|(refine Go.Wk.RD_Lw ?_;exact k.out))):G:=h ⟨k⟩
theorem js {G G':Prop}(k:G')(h:Hold G'->G:=by intro k;(first|(apply Go.Wk.RL_st0;exact k.out)|(apply Go.Wk.RL_st;rfl;exact k.out))):G:=h ⟨k⟩
theorem fin {G G':Prop}(k:G')(h:Hold G'->G:=by intro k;(first|exact⟨_,Go.Wk.EndsA,Go.Wk.QFA,k.out⟩|exact Go.Wk.RLid k.out|exact⟨_,Go.Wk.EndsA,Go.Wk.SubO.right _ _,k.out⟩|(refine⟨_,?_,?_,?_⟩;exact Go.Wk.EndsA;exact .refl _;exact k.out))):G:=h ⟨k⟩
theorem ZCr {todo todo':List (Nat × Oper)}{V V':List Qp}{Al A1:List Ap}{k:Ap}{i:Nat}{o:Oper}(c:∀ b,RD P n wr ops todo V A1 K ((k.d,k.val b)::fr) (k.it b::O))(a:∀ F,Stp P n wr fr (O++F) o fun v O'=>∃ O'',Ends O' F O''/\QF P n wr ops (updF fr o.dst v) O'' V'/\RD P n wr ops todo' V' Al K (updF fr o.dst v) O'')
  (hp:Zif ops todo Al todo=some ((i,o),todo'):=by rfl) (hks:Zll ops todo [] Al=[(k,A1)]:=by rfl) (hV:Filt ops i V V':=by repeat (first|exact Go.Wk.Filt.nil|(apply Go.Wk.Filt.drop;rfl)|(apply Go.Wk.Filt.dropT;rfl)|(apply Go.Wk.Filt.keep;rfl))) (hok:okK n ops fr todo todo' o [k.i]=true:=by rfl) (hal:alOk n fr o.dst Al=true:=by rfl):RD P n wr ops todo V Al K fr O:=ZD9 hp hks hok hal hV c a
theorem jg {G G':Prop}(k:G')(h:Hold G'->G:=by intro k;(first|(apply Go.Wk.RL_st0;exact k.out)|(apply Go.Wk.RL_st;rfl;exact k.out)|(refine Go.Wk.RD_Lw ?_;exact k.out)|(refine Go.Wk.RD_G0c ?_;exact k.out))):G:=h ⟨k⟩
end
end Go.Wk
namespace Go.Proofs.YtpipekfmecikmaaGreatDoor
open Go Go.Wk Tryz
instance:Ty prog 2 1 false:={}
instance:ZeroT prog 2 [.int .i64 0]:={}
instance:IntT prog 2 .i64:={}
instance:Ty prog 3 1 false:={}
instance:ZeroT prog 3 [.int .i64 0]:={}
instance:ZeroV prog 3 (.int .i64 0):={}
instance:Ty prog 4 1 false:={}
instance:ZeroT prog 4 [.bool false]:={}
instance:ZeroV prog 4 (.bool false):={}
instance:BoolT prog 4:={}
instance:Ty prog 5 1 false:={}
instance:ZeroT prog 5 [.int .u8 0]:={}
instance:IntT prog 5 .u8:={}
instance:Ty prog 9 1 false:={}
instance:ZeroT prog 9 [.string ByteArray.empty]:={}
instance:StringT prog 9:={}
instance:Ty prog 22 1 false:={}
instance:ZeroT prog 22 [.slice none 0 0]:={}
instance:ElemZ prog 22 68 11 104:={}
instance:ZeroV prog 22 (.slice none 0 0):={}
instance:ElemT prog 22 68 11 104:={}
instance:Ty prog 23 1 false:={}
instance:ElemZ prog 23 71 2 40:={}
instance:ElemT prog 23 71 2 40:={}
instance:Ty prog 24 1 false:={}
instance:ElemZ prog 24 77 2 32:={}
instance:ElemT prog 24 77 2 32:={}
instance:Ty prog 25 1 false:={}
instance:ElemZ prog 25 9 1 16:={}
instance:ElemT prog 25 9 1 16:={}
instance:Ty prog 27 4 true:={}
instance:FieldAt prog 27 0 0 1 false:={}
instance:FieldAt prog 27 1 1 1 false:={}
instance:FieldAt prog 27 2 2 1 false:={}
instance:FieldAt prog 27 3 3 1 false:={}
instance:LayT prog 27 [(0,1),(1,1),(2,1),(3,1)]:={}
instance:ZeroT prog 27 [.slice none 0 0,.slice none 0 0,.slice none 0 0,.slice none 0 0]:={}
instance:Ty prog 34 1 false:={}
instance:ZeroT prog 34 [.int .i64 0]:={}
instance:Ty prog 42 3 true:={}
instance:LayT prog 42 [(0,1),(1,1),(2,1)]:={}
instance:ZeroT prog 42 [.int .i64 0,.bool false,.string ByteArray.empty]:={}
instance:Ty prog 53 1 false:={}
instance:ZeroT prog 53 [.slice none 0 0]:={}
instance:ElemZ prog 53 59 2 16:={}
instance:ElemT prog 53 59 2 16:={}
instance:Ty prog 54 1 false:={}
instance:ZeroT prog 54 [.slice none 0 0]:={}
instance:ElemZ prog 54 42 3 32:={}
instance:ElemT prog 54 42 3 32:={}
instance:Ty prog 59 2 true:={}
instance:LayT prog 59 [(0,1),(1,1)]:={}
instance:ZeroT prog 59 [.int .i64 0,.int .i64 0]:={}
instance:Ty prog 62 1 false:={}
instance:Ty prog 64 3 true:={}
instance:FieldAt prog 64 0 0 1 false:={}
instance:FieldAt prog 64 1 1 1 false:={}
instance:FieldAt prog 64 2 2 1 false:={}
instance:LayT prog 64 [(0,1),(1,1),(2,1)]:={}
instance:ZeroT prog 64 [.int .i64 0,.int .i64 0,.int .i64 0]:={}
instance:Ty prog 66 2 true:={}
instance:FieldAt prog 66 0 0 1 false:={}
instance:FieldAt prog 66 1 1 1 false:={}
instance:LayT prog 66 [(0,1),(1,1)]:={}
instance:ZeroT prog 66 [.int .i64 0,.int .i64 0]:={}
instance:Ty prog 68 11 true:={}
instance:FieldAt prog 68 0 0 1 false:={}
instance:FieldAt prog 68 1 1 1 false:={}
instance:FieldAt prog 68 2 2 1 false:={}
instance:FieldAt prog 68 3 3 1 false:={}
instance:FieldAt prog 68 4 4 3 true:={}
instance:FieldAt prog 68 5 7 2 true:={}
instance:FieldAt prog 68 6 9 1 false:={}
instance:FieldAt prog 68 7 10 1 false:={}
instance:LayT prog 68 [(0,1),(1,1),(2,1),(3,1),(4,3),(7,2),(9,1),(10,1)]:={}
instance:ZeroT prog 68 [.string ByteArray.empty,.int .i64 0,.int .i64 0,.int .i64 0,.int .i64 0,.int .i64 0,.int .i64 0,.int .i64 0,.int .i64 0,.int .i64 0,.string ByteArray.empty]:={}
instance:Ty prog 69 1 false:={}
instance:ElemZ prog 69 75 13 120:={}
instance:ElemT prog 69 75 13 120:={}
instance:Ty prog 71 2 true:={}
instance:FieldAt prog 71 0 0 1 false:={}
instance:FieldAt prog 71 1 1 1 false:={}
instance:LayT prog 71 [(0,1),(1,1)]:={}
instance:ZeroT prog 71 [.string ByteArray.empty,.slice none 0 0]:={}
instance:Ty prog 73 8 true:={}
instance:FieldAt prog 73 0 0 1 false:={}
instance:FieldAt prog 73 1 1 1 false:={}
instance:FieldAt prog 73 2 2 1 false:={}
instance:FieldAt prog 73 3 3 3 true:={}
instance:FieldAt prog 73 4 6 2 true:={}
instance:LayT prog 73 [(0,1),(1,1),(2,1),(3,3),(6,2)]:={}
instance:ZeroT prog 73 [.bool false,.int .i64 0,.int .i64 0,.int .i64 0,.int .i64 0,.int .i64 0,.int .i64 0,.int .i64 0]:={}
instance:Ty prog 75 13 true:={}
instance:FieldAt prog 75 0 0 1 false:={}
instance:FieldAt prog 75 1 1 1 false:={}
instance:FieldAt prog 75 2 2 1 false:={}
instance:FieldAt prog 75 3 3 1 false:={}
instance:FieldAt prog 75 4 4 1 false:={}
instance:FieldAt prog 75 5 5 8 true:={}
instance:LayT prog 75 [(0,1),(1,1),(2,1),(3,1),(4,1),(5,8)]:={}
instance:ZeroT prog 75 [.int .i64 0,.int .i64 0,.int .i64 0,.string ByteArray.empty,.string ByteArray.empty,.bool false,.int .i64 0,.int .i64 0,.int .i64 0,.int .i64 0,.int .i64 0,.int .i64 0,.int .i64 0]:={}
instance:Ty prog 77 2 true:={}
instance:FieldAt prog 77 0 0 1 false:={}
instance:FieldAt prog 77 1 1 1 false:={}
instance:LayT prog 77 [(0,1),(1,1)]:={}
instance:ZeroT prog 77 [.string ByteArray.empty,.string ByteArray.empty]:={}
instance:Ty prog 91 3 true:={}
instance:FieldAt prog 91 0 0 1 false:={}
instance:FieldAt prog 91 1 1 1 false:={}
instance:FieldAt prog 91 2 2 1 false:={}
instance:LayT prog 91 [(0,1),(1,1),(2,1)]:={}
instance:ZeroT prog 91 [.int .i64 0,.int .i64 0,.int .i64 0]:={}
instance:Ty prog 105 1 false:={}
instance:ElemZ prog 105 109 3 24:={}
instance:ElemT prog 105 109 3 24:={}
instance:Ty prog 109 3 true:={}
instance:FieldAt prog 109 0 0 1 false:={}
instance:FieldAt prog 109 1 1 1 false:={}
instance:FieldAt prog 109 2 2 1 false:={}
instance:LayT prog 109 [(0,1),(1,1),(2,1)]:={}
instance:ZeroT prog 109 [.int .i64 0,.int .i64 0,.int .i64 0]:={}
instance:Ty prog 114 2 true:={}
instance:ArrT prog 114 2 2 1 false:={}
instance:ZeroT prog 114 [.int .i64 0,.int .i64 0]:={}
instance:ElemZ prog 115 114 2 16:={}
instance:ElemT prog 115 114 2 16:={}
instance:Ty prog 116 1 false:={}
instance:ElemZ prog 116 22 1 24:={}
instance:ElemT prog 116 22 1 24:={}
instance:Ty prog 118 3 true:={}
instance:FieldAt prog 118 0 0 1 false:={}
instance:FieldAt prog 118 1 1 1 false:={}
instance:FieldAt prog 118 2 2 1 false:={}
instance:LayT prog 118 [(0,1),(1,1),(2,1)]:={}
instance:ZeroT prog 118 [.slice none 0 0,.slice none 0 0,.slice none 0 0]:={}
instance:Ty prog 125 1 false:={}
instance:ZeroT prog 125 [.map none]:={}
instance:MapT prog 125 42 3:={}
instance:Ty prog 138 3 true:={}
instance:FieldAt prog 138 2 2 1 false:={}
instance:LayT prog 138 [(0,1),(1,1),(2,1)]:={}
instance:ZeroT prog 138 [.int .i64 0,.int .i64 0,.int .i64 0]:={}
instance:Ty prog 155 2 true:={}
instance:FieldAt prog 155 0 0 1 false:={}
instance:FieldAt prog 155 1 1 1 false:={}
instance:LayT prog 155 [(0,1),(1,1)]:={}
instance:ZeroT prog 155 [.int .i64 0,.string ByteArray.empty]:={}
instance:Ty prog 169 1 false:={}
instance:Ty prog 171 3 true:={}
instance:FieldAt prog 171 0 0 1 false:={}
instance:FieldAt prog 171 1 1 1 false:={}
instance:FieldAt prog 171 2 2 1 false:={}
instance:ZeroT prog 171 [.bool false,.bool false,.nilFunc]:={}
instance:ArrT prog 172 5 171 3 true:={}
instance:Ty prog 174 4 true:={}
instance:FieldAt prog 174 0 0 4 true:={}
instance:LayT prog 174 [(0,4)]:={}
instance:ZeroT prog 174 [.slice none 0 0,.slice none 0 0,.slice none 0 0,.slice none 0 0]:={}
instance:Ty prog 175 1 false:={}
instance:ElemZ prog 176 175 1 8:={}
instance:ElemT prog 176 175 1 8:={}
instance:Ty prog 193 1 false:={}
instance:MapT prog 193 9 22:={}
instance:Ty prog 195 5 true:={}
instance:FieldAt prog 195 0 0 4 true:={}
instance:FieldAt prog 195 1 4 1 false:={}
instance:LayT prog 195 [(0,4),(4,1)]:={}
instance:ZeroT prog 195 [.slice none 0 0,.slice none 0 0,.slice none 0 0,.slice none 0 0,.map none]:={}
instance:MapT prog 207 9 3:={}
instance:ArrT prog 209 12 2 1 false:={}
instance:ElemZ prog 221 3 1 8:={}
instance:ElemT prog 221 3 1 8:={}
instance:Ty prog 238 3 true:={}
instance:ArrT prog 238 3 2 1 false:={}
instance:ZeroT prog 238 [.int .i64 0,.int .i64 0,.int .i64 0]:={}
instance:ElemZ prog 239 5 1 1:={}
instance:ElemT prog 239 5 1 1:={}
instance:ElemZ prog 240 2 1 8:={}
instance:ElemT prog 240 2 1 8:={}
instance:MapT prog 245 9 4:={}
instance:Ty prog 246 1 false:={}
instance:Ty prog 248 2 true:={}
instance:FieldAt prog 248 0 0 1 false:={}
instance:FieldAt prog 248 1 1 1 false:={}
instance:ZeroT prog 248 [.nilFunc,.int .i64 0]:={}
instance:Ty prog 249 12 true:={}
instance:ArrT prog 249 6 248 2 true:={}
instance:Ty prog 252 1 false:={}
instance:ZeroT prog 252 [.slice none 0 0]:={}
instance:ElemZ prog 252 91 3 24:={}
instance:ElemT prog 252 91 3 24:={}
instance:ElemZ prog 259 155 2 24:={}
instance:ElemT prog 259 155 2 24:={}
instance:MapT prog 264 266 3:={}
instance:LayT prog 266 [(0,1),(1,1)]:={}
instance:ZeroT prog 266 [.int .i64 0,.string ByteArray.empty]:={}
instance:ElemZ prog 269 252 1 24:={}
instance:ElemT prog 269 252 1 24:={}
instance:ElemZ prog 274 276 2 24:={}
instance:ElemT prog 274 276 2 24:={}
instance:Ty prog 276 2 true:={}
instance:LayT prog 276 [(0,1),(1,1)]:={}
instance:ZeroT prog 276 [.int .i64 0,.string ByteArray.empty]:={}
instance:Ty prog 279 256 true:={}
instance:ArrT prog 279 256 5 1 false:={}
instance:Ty prog 286 1 false:={}
instance:IntT prog 286 .u64:={}
abbrev BdP:=Body prog
instance:BdP 22:={}
instance:BdP 23:={}
instance:BdP 24:={}
instance:BdP 26:={}
instance:BdP 27:={}
instance:BdP 28:={}
instance:BdP 29:={}
instance:BdP 30:={}
instance:BdP 42:={}
instance:BdP 46:={}
instance:BdP 53:={}
instance:BdP 54:={}
instance:BdP 56:={}
instance:BdP 57:={}
instance:BdP 60:={}
instance:BdP 61:={}
instance:BdP 62:={}
instance:BdP 63:={}
instance:BdP 64:={}
instance:BdP 65:={}
instance:BdP 66:={}
instance:BdP 67:={}
instance:BdP 68:={}
instance:BdP 69:={}
instance:BdP 70:={}
instance:BdP 71:={}
instance:BdP 72:={}
instance:BdP 73:={}
instance:BdP 75:={}
instance:BdP 76:={}
instance:BdP 78:={}
instance:BdP 79:={}
instance:BdP 80:={}
instance:BdP 81:={}
instance:BdP 82:={}
instance:BdP 83:={}
instance:BdP 84:={}
instance:BdP 85:={}
instance:BdP 86:={}
instance:BdP 87:={}
instance:BdP 88:={}
instance:BdP 89:={}
instance:BdP 90:={}
instance:BdP 91:={}
instance:BdP 92:={}
instance:BdP 93:={}
instance:BdP 97:={}
instance:BdP 98:={}
instance:BdP 99:={}
instance:BdP 100:={}
instance:BdP 101:={}
instance:BdP 102:={}
instance:BdP 103:={}
instance:BdP 104:={}
instance:BdP 105:={}
instance:BdP 106:={}
instance:BdP 107:={}
instance:BdP 108:={}
instance:BdP 109:={}
instance:BdP 110:={}
instance:BdP 111:={}
instance:BdP 112:={}
instance:BdP 113:={}
instance:BdP 114:={}
instance:BdP 115:={}
instance:BdP 116:={}
instance:BdP 117:={}
instance:BdP 118:={}
instance:BdP 119:={}
instance:BdP 120:={}
instance:BdP 121:={}
instance:BdP 122:={}
instance:BdP 123:={}
instance:BdP 124:={}
instance:BdP 125:={}
instance:BdP 126:={}
instance:BdP 127:={}
instance:BdP 128:={}
instance:BdP 129:={}
instance:BdP 130:={}
instance:BdP 131:={}
instance:BdP 132:={}
instance:BdP 133:={}
instance:BdP 134:={}
instance:BdP 135:={}
instance:BdP 136:={}
instance:BdP 137:={}
instance:BdP 138:={}
instance:BdP 139:={}
instance:BdP 140:={}
instance:BdP 142:={}
instance:BdP 143:={}
instance:BdP 144:={}
instance:BdP 145:={}
instance:BdP 146:={}
instance:BdP 147:={}
instance:BdP 148:={}
instance:BdP 149:={}
instance:BdP 150:={}
instance:BdP 151:={}
instance:BdP 152:={}
instance:BdP 153:={}
instance:BdP 154:={}
instance:BdP 155:={}
instance:BdP 156:={}
instance:BdP 157:={}
instance:BdP 158:={}
instance:BdP 159:={}
instance:BdP 160:={}
instance:BdP 161:={}
instance:BdP 162:={}
instance:BdP 163:={}
instance:BdP 164:={}
instance:BdP 165:={}
instance:BdP 166:={}
instance:BdP 167:={}
instance:BdP 168:={}
instance:BdP 169:={}
instance:BdP 170:={}
instance:BdP 171:={}
instance:BdP 172:={}
instance:BdP 173:={}
instance:BdP 174:={}
instance:BdP 175:={}
instance:BdP 176:={}
instance:BdP 177:={}
instance:BdP 178:={}
instance:BdP 179:={}
instance:BdP 180:={}
instance:BdP 181:={}
instance:BdP 182:={}
instance:BdP 183:={}
instance:BdP 184:={}
instance:BdP 185:={}
instance:BdP 186:={}
instance:BdP 187:={}
instance:BdP 188:={}
instance:BdP 189:={}
instance:BdP 190:={}
instance:BdP 191:={}
instance:BdP 192:={}
instance:BdP 193:={}
instance:BdP 194:={}
instance:BdP 195:={}
instance:BdP 196:={}
instance:BdP 197:={}
instance:BdP 198:={}
instance:BdP 199:={}
instance:BdP 200:={}
instance:BdP 201:={}
instance:BdP 202:={}
instance:BdP 203:={}
instance:BdP 204:={}
instance:BdP 205:={}
instance:BdP 206:={}
instance:BdP 207:={}
instance:BdP 208:={}
instance:BdP 209:={}
instance:BdP 210:={}
instance:BdP 211:={}
instance:BdP 212:={}
instance:BdP 213:={}
instance:BdP 215:={}
instance:BdP 216:={}
instance:BdP 217:={}
instance:BdP 218:={}
instance:BdP 219:={}
instance:BdP 220:={}
instance:BdP 221:={}
instance:BdP 222:={}
instance:BdP 223:={}
instance:BdP 224:={}
instance:BdP 225:={}
instance:BdP 226:={}
instance:BdP 227:={}
instance:BdP 228:={}
instance:BdP 229:={}
instance:BdP 230:={}
instance:BdP 231:={}
instance:BdP 232:={}
instance:BdP 233:={}
instance:BdP 234:={}
instance:BdP 235:={}
instance:BdP 236:={}
instance:BdP 237:={}
instance:BdP 238:={}
instance:BdP 239:={}
instance:BdP 240:={}
instance:BdP 241:={}
instance:BdP 242:={}
instance:BdP 243:={}
instance:BdP 244:={}
instance:BdP 245:={}
instance:BdP 246:={}
instance:BdP 247:={}
instance:BdP 248:={}
instance:BdP 249:={}
instance:BdP 250:={}
instance:BdP 251:={}
instance:BdP 252:={}
instance:BdP 253:={}
instance:BdP 254:={}
instance:BdP 255:={}
instance:BdP 256:={}
instance:BdP 257:={}
instance:BdP 258:={}
instance:BdP 259:={}
instance:BdP 260:={}
instance:BdP 262:={}
instance:BdP 264:={}
instance:BdP 265:={}
instance:BdP 266:={}
instance:BdP 268:={}
instance:BdP 269:={}
instance:BdP 270:={}
instance:BdP 271:={}
instance:BdP 272:={}
instance:BdP 273:={}
instance:BdP 274:={}
instance:BdP 275:={}
instance:BdP 276:={}
instance:BdP 277:={}
instance:BdP 278:={}
instance:BdP 279:={}
instance:BdP 280:={}
instance:BdP 281:={}
instance:BdP 282:={}
instance:BdP 283:={}
instance:BdP 284:={}
instance:BdP 285:={}
instance:BdP 286:={}
instance:BdP 287:={}
instance:BdP 288:={}
instance:BdP 291:={}
instance:BdP 292:={}
instance:BdP 293:={}
instance:BdP 294:={}
instance:BdP 295:={}
instance:BdP 302:={}
instance:BdP 313:={}
instance:BdP 315:={}
instance:BdP 316:={}
instance:BdP 317:={}
instance:BdP 383:={}
instance:BdP 384:={}
instance:BdP 385:={}
instance:BdP 386:={}
instance:BdP 387:={}
instance:BdP 388:={}
instance:BdP 389:={}
instance:BdP 390:={}
instance:BdP 391:={}
instance:BdP 392:={}
instance:BdP 393:={}
instance:BdP 394:={}
instance:BdP 395:={}
instance:BdP 396:={}
instance:BdP 397:={}
instance:BdP 398:={}
instance:BdP 399:={}
open Go Go.RowKit Go.Wk
theorem Zmx (w:World)(p:Prop)[Decidable p](b:Bool):(if p then Result.ok b w else Result.ok false w)=Result.ok (decide p&&b) w:=by
 by_cases h:p <;> simp[h]
attribute [local irreducible] W RL Does Zaq Zai retQ Calls Pu Stp RD Qy Ay
theorem Zag {α:Type}{xs:List α}{k:Nat}(h:k<xs.length):xs.drop k=xs[k]::xs.drop (k+1):=List.drop_eq_getElem_cons h
theorem Zqf {α:Type}[DecidableEq α](x y:α)(xs a:List α):decide (x::xs=y::a)=(decide (x=y)&&decide (xs=a)):=by
 rw[Bool.eq_iff_iff];simp
theorem Zt6 {α:Type}[DecidableEq α]{xs a:List α}{k:Nat}(b:xs.length<=k)(c:a.length<=k):decide (xs.drop k=a.drop k)=true:=by
 rw[List.drop_eq_nil_of_le b,List.drop_eq_nil_of_le c];simp
theorem Zt7 {α:Type}[DecidableEq α]{xs a:List α}(h:xs.length≠a.length):decide (xs=a)=false:=by
 simp;rintro rfl;exact h rfl
def srcV (Ar Az Al As:Option Addr)(cr cz cl cs:Nat)(s:DSource):Value := .agg #[.slice Ar s.rules.length cr,.slice Az s.zones.length cz,.slice Al s.links.length cl,.slice As s.shifts.length cs]
def memB (x:ByteArray):List ByteArray->Bool
 | []=>false
 | y::l=>decide (y=x)||memB x l
def Zb8 {α:Type}(p:α->Bool):List α->Nat->Int
 | [],_ => -1
 | x::l,k=>if p x then k else Zb8 p l (k+1)
theorem ZrL (A:Option Addr)(c:Nat)(l:List ByteArray)(x:ByteArray)(w:World)(g:RdSl w A c ZaR 1 l) :
  Does prog 231 [.slice A l.length c,.string x] w (fun v O=>v = .int .i64 (Zb8 (fun y=>decide (x=y)) l 0)/\O=[]):=by
 have j:=g.le
 have i:=g.cap
 unfold maxLen at i
 generalize hres:Zb8 (fun y=>decide (x=y)) l 0=res
 refine Zaa func231 rfl rfl rfl rfl ?_
 repeat (refine walk ?_)
 refine Zah [(0,_),(1,_),(4,_),(7,_)] _ (fun k:Nat=>[(8,.int .i64 k)]) (fun _=>[]) (fun k=>k<=l.length/\Zb8 (fun y=>decide (x=y)) (l.drop k) k=res) (fun k=>l.length - k) 0 ⟨rfl,rfl,rfl,rfl,rfl,trivial⟩ (.refl _) ⟨by omega,by simpa using hres⟩ ?_
 rintro k ⟨m,d⟩
 repeat (refine walk ?_)
 refine Zaf rfl (fun e=>?_) (fun e=>?_)
 ·simp only[decide_eq_true_eq,Int.ofNat_lt]at e
  obtain⟨hna,hca⟩:=g.rd k _ (List.getElem?_eq_getElem e)
  have hnb:=hna
  have hcb:=hca
  rw[Zag e,Zb8]at d
  generalize l[k]=p at *
  repeat (first|(apply RL_pu;rfl;exact PuI)|refine walk1 ?_)
  refine Zaf rfl (fun f=>?_) (fun f=>?_)
  ·repeat (refine walk ?_)
   rw[if_pos f]at d
   exact ret_1 _ [] (.tmp rfl) .nil ⟨by rw[<- d],rfl⟩
  repeat (refine walk ?_)
  rw[f]at d
  exact⟨k+1,by omega,⟨by omega,d⟩,SFA,SOA⟩
 simp only[decide_eq_false_iff_not,Int.ofNat_lt]at e
 repeat (refine walk ?_)
 exact ret_1 _ [] (.tmp rfl) .nil ⟨by rw[<- d,List.drop_eq_nil_of_le (by omega)];rfl,rfl⟩
theorem Zm6 (x:ByteArray):∀ (l:List ByteArray) (k:Nat),decide (0<=Zb8 (fun y=>decide (x=y)) l k)=memB x l
 | [],k=>by simp[Zb8,memB]
 | y::l,k=>by
  have a:=Zm6 x l (k+1)
  simp only[Zb8,memB]
  by_cases h:x=y
  ·subst h;simp
  ·rw[<- a]
   have:¬ y=x:=fun e=>h e.symm
   simp[h,this]
theorem Zlp (A:Option Addr)(c:Nat)(l:List ByteArray)(x:ByteArray)(w:World)(a:RdSl w A c ZaR 1 l) :
  Does prog 180 [.slice A l.length c,.string x] w (fun v O=>v = .bool (memB x l)/\O=[]):=by
 refine Zaa func180 rfl rfl rfl rfl ?_
 repeat (first|(refine js ?_;(refine Zab (fun w' b=>ZrL A c l x w' (a.up b)) ?_))|refine walk ?_)
 exact ret_1 _ [] (.tmp rfl) .nil ⟨by rw[Zm6],rfl⟩
theorem Zft (A:Option Addr)(c:Nat)(l:List DRule)(f:FuncId)[Body prog f](us cs:List Value)(p:DRule->Bool)(w:World)(i:RdSl w A c DRule.enc 11 l)
  (m:∀ r w',Bel w.heap.size w w'->Does prog f (us++[.agg (DRule.enc r).toArray]++cs) w' (fun v O=>v = .bool (p r)/\O=[])) :
  Does prog 269 [.slice A l.length c,.func (.func f) us.toArray cs.toArray] w (fun v O=>v = .int .i64 (Zb8 p l 0)/\O=[]):=by
 have q:=i.le
 have j:=i.cap
 unfold maxLen at j
 generalize hres:Zb8 p l 0=res
 refine Zaa func269 rfl rfl rfl rfl ?_
 repeat (refine walk ?_)
 refine Zah [(0,_),(1,_),(4,_),(7,_)] _ (fun k:Nat=>[(8,.int .i64 k)]) (fun _=>[]) (fun k=>k<=l.length/\Zb8 p (l.drop k) k=res) (fun k=>l.length - k) 0 ⟨rfl,rfl,rfl,rfl,rfl,trivial⟩ (.refl _) ⟨by omega,by simpa using hres⟩ ?_
 rintro k ⟨t,d⟩
 repeat (refine walk ?_)
 refine Zaf rfl (fun e=>?_) (fun e=>?_)
 ·simp only[decide_eq_true_eq,Int.ofNat_lt]at e
  obtain⟨hna,hca⟩:=i.rd k _ (List.getElem?_eq_getElem e)
  have hnb:=hna
  have hcb:=hca
  rw[Zag e,Zb8]at d
  generalize l[k]=r at *
  repeat (first|(apply RL_pu;rfl;exact PuI)|(refine js ?_;(refine ZdT (fun w' s _=>m r w' s) ?_))|refine walk1 ?_)
  refine Zaf rfl (fun g=>?_) (fun g=>?_)
  ·repeat (refine walk ?_)
   rw[if_pos g]at d
   exact ret_1 _ [] (.tmp rfl) .nil ⟨by rw[<- d],rfl⟩
  repeat (refine walk ?_)
  rw[g]at d
  exact⟨k+1,by omega,⟨by omega,d⟩,SFA,SOA⟩
 simp only[decide_eq_false_iff_not,Int.ofNat_lt]at e
 repeat (refine walk ?_)
 exact ret_1 _ [] (.tmp rfl) .nil ⟨by rw[<- d,List.drop_eq_nil_of_le (by omega)];rfl,rfl⟩
def ofB (l:List DRule)(x:ByteArray):List DRule:=l.filter fun r=>decide (r.name=x)
def ZgC {α:Type}(e sz:Nat)(enc:α->List Value)(l:List α)(v:Value)(O:List It):Prop:=∃ A c,v = .slice A l.length c/\O=[.row (.slice A l.length c) e sz l.length (l.flatMap enc)]
theorem Zih (Ar Az Al As:Option Addr)(j q i cs:Nat)(a:DSource)(set:ByteArray)(w:World)(s:Zam w Ar Az Al As j q i cs a)(z:a.rules.length<=1000000) :
  Does prog 86 [srcV Ar Az Al As j q i cs a,.string set] w (ZgC 68 11 DRule.enc (ofB a.rules set)):=by
 generalize hres:ofB a.rules set=res
 refine Zaa func86 rfl rfl rfl rfl ?_
 repeat (first|(refine js ?_;(refine bx ?_;intro e))|refine walk ?_)
 refine Zdy 68 11 ?_
 refine Zah [(1,_),(2,_),(4,_)] [_] (fun g:AG DRule=>[(5,.slice g.A g.m g.c),(6,.int .i64 g.k)]) (fun g=>[.row (.slice g.A g.m g.c) 68 11 g.m g.xs]) (fun g=>g.k<=a.rules.length/\g.m=g.acc.length/\g.xs=g.acc.flatMap DRule.enc/\g.m<=g.k/\g.acc++ofB (a.rules.drop g.k) set=res) (fun g=>a.rules.length - g.k) ⟨0,none,0,0,[],[]⟩ ⟨rfl,rfl,rfl,rfl,rfl,trivial⟩ (.refl _) ⟨by simp,rfl,rfl,Nat.le_refl _,by simpa using hres⟩ ?_
 rintro⟨k,A,c,m,xs,acc⟩ ⟨hk,hm,hx,hmk,hi⟩
 dsimp only at hk hm hx hmk hi ⊢
 repeat (first|(refine js ?_;(refine bx ?_;intro e))|refine walk ?_)
 refine Zaf rfl (fun d=>?_) (fun d=>?_)
 ·simp only[decide_eq_true_eq,Int.ofNat_lt]at d
  obtain⟨hna,hca⟩:=s.r.rd k _ (List.getElem?_eq_getElem d)
  have hnb:=hna
  have hcb:=hca
  rw[Zag d,ofB,List.filter_cons]at hi
  generalize a.rules[k]=r at *
  repeat (first|(apply RL_pu;rfl;exact PuI)|refine walk1 ?_)
  refine Zaf rfl (fun f=>?_) (fun f=>?_)
  ·rw[if_pos f]at hi
   repeat (first|(apply RL_pu;rfl;exact PuI)|(refine js ?_;(first|(apply ZaC;rfl;rfl;(intro A' c';(focus repeat' constructor));(intro w' _ t;exact Zbr (t.of cS_));rfl;rfl;(simp only[maxLen];omega);omega;intro A' c' u x y)|(refine bx ?_;intro e)))|refine walk1 ?_)
   exact⟨⟨k+1,A',c',m+1,xs++r.enc,acc++[r]⟩,OA,⟨OA,by simp[hm],by rw[hx];exact ZbB acc r,OA,by rw[<- hi];simp[ofB]⟩,SFA,SOA⟩
  rw[f]at hi
  repeat (first|(refine js ?_;(refine bx ?_;intro e))|refine walk ?_)
  exact⟨⟨k+1,A,c,m,xs,acc⟩,OA,⟨OA,hm,hx,OA,hi⟩,SFA,SOA⟩
 simp only[decide_eq_false_iff_not,Int.ofNat_lt]at d
 rw[List.drop_eq_nil_of_le (by omega)]at hi
 simp only[ofB,List.filter_nil,List.append_nil]at hi
 subst hi
 repeat (first|(refine js ?_;(refine bx ?_;intro e))|refine walk ?_)
 exact ret_1 _ [.row (.slice A acc.length c) 68 11 acc.length (acc.flatMap DRule.enc)] (.tmp rfl) (by subst hm hx;exact SOA) ⟨A,c,by rw[hm],rfl⟩
def ZbM:List DRule->List ByteArray->List ByteArray
 | [],acc=>acc
 | r::l,acc=>if memB r.name acc then ZbM l acc else ZbM l (acc++[r.name])
theorem ZmG (x y:ByteArray):∀ l:List ByteArray,memB x (l++[y])=(memB x l||decide (y=x))
 | []=>by simp[memB]
 | z::l=>by simp[memB,ZmG x y l,Bool.or_assoc]
theorem ZdW {G G':Prop}(k:G')(h:Hold G'->G:=by intro k9;(first|refine walk ?_|(refine jn ?_;(try intro F);(apply Zan;exact PuA);refine fin ?_));exact k9.out):G:=h ⟨k⟩
theorem ZBo {G:Prop}(h:G:=by(first|exact PuI|(apply ZcU;rfl;(focus repeat' constructor);exact hg))):G:=h
theorem ZBe {G:Prop}(h:G:=by first|(apply Qy_y;rfl;exact ZBo)|exact QyA):G:=h
theorem ZBf {G:Prop}(h:G:=by repeat (exact QF.nil)):G:=h
theorem Zof (Ar Az Al As:Option Addr)(z D x cs:Nat)(a:DSource)(w:World)(E:Zam w Ar Az Al As z D x cs a)(J:a.rules.length<=1000000) :
  Does prog 187 [srcV Ar Az Al As z D x cs a] w (ZgC 9 1 ZaR (ZbM a.rules [])):=by
 generalize hres:ZbM a.rules []=res
 refine Zaa func187 rfl rfl rfl rfl ?_
 repeat (first|refine ZdW ?_|(refine jn ?_;(try intro F);(refine bx ?_;intro d);refine fin ?_))
 refine Zdy 9 1 ?_
 refine Zah [(1,_),(2,_)] [_] (fun g:AG ByteArray=>[(3,.slice g.A g.m g.c),(4,.int .i64 g.k)]) (fun g=>[.row (.slice g.A g.m g.c) 9 1 g.m g.xs]) (fun g=>g.k<=a.rules.length/\g.m=g.acc.length/\g.xs=g.acc.flatMap ZaR/\g.m<=g.k/\ZbM (a.rules.drop g.k) g.acc=res) (fun g=>a.rules.length - g.k) ⟨0,none,0,0,[],[]⟩ ⟨rfl,rfl,rfl,rfl,trivial⟩ (.refl _) ⟨by simp,rfl,rfl,Nat.le_refl _,by simpa using hres⟩ ?_
 rintro⟨k,A,c,m,xs,acc⟩ ⟨hk,hm,hx,hmk,hi⟩
 dsimp only at hk hm hx hmk hi ⊢
 repeat (first|refine ZdW ?_|(refine jn ?_;(try intro F);(refine bx ?_;intro d);refine fin ?_))
 refine Zaf rfl (fun q=>?_) (fun q=>?_)
 ·simp only[decide_eq_true_eq,Int.ofNat_lt]at q
  obtain⟨hna,hca⟩:=E.r.rd k _ (List.getElem?_eq_getElem q)
  rw[Zag q,ZbM]at hi
  generalize a.rules[k]=r at *
  repeat (first|refine ZdW ?_|(refine jn ?_;(try intro F);(refine bx ?_;intro d);refine fin ?_))
  refine Zah [(1,_),(2,_),(3,_),(4,_)] [_,_] (fun g:Nat × Bool=>[(5,.bool g.2),(6,.int .i64 g.1)]) (fun _=>[]) (fun g=>g.1<=m/\(g.2||memB r.name (acc.drop g.1))=memB r.name acc) (fun g=>m - g.1) (0,false) ⟨rfl,rfl,rfl,rfl,rfl,rfl,trivial⟩ (.refl _) ⟨by omega,by simp⟩ ?_
  rintro⟨j,seen⟩ ⟨hj,hij⟩
  dsimp only at hj hij ⊢
  repeat (first|refine ZdW ?_|(refine jn ?_;(try intro F);(refine bx ?_;intro d);refine fin ?_))
  refine Zaf rfl (fun e=>?_) (fun e=>?_)
  ·simp only[decide_eq_true_eq,Int.ofNat_lt]at e
   have s:j<acc.length:=by omega
   refine ZCj (fun w' _ u=>ZpX (u.of cS_) (by omega)) (fun hnb=>?_)
   rw[Zag s,memB]at hij
   have hg:xs[(j:Int).toNat*1]?=some (.string acc[j]):=by
    rw[hx]
    exact ZaD ZaR.len acc j _ 0 _ (List.getElem?_eq_getElem s) rfl
   generalize acc[j]=y at *
   repeat (first|refine ZdW ?_|(refine jn ?_;(try intro F);(refine bx ?_;intro d);refine fin ?_))
   refine Zqv 21 rfl (fun t=>?_) (fun t=>?_)
   ·repeat (first|refine ZdW ?_|(refine jn ?_;(try intro F);(refine bx ?_;intro d);refine fin ?_))
    exact⟨(j+1,true),OA,⟨OA,by rw[<- hij,t];simp⟩,SFA,SOA⟩
   have hcb:=hca
   repeat (first|(apply RD_Q;rfl;rfl;decide +kernel;rfl;rfl;exact ZBe)|refine walk1 ?_|(refine jn ?_;(try intro F);(first|(refine bx ?_;intro d)|(apply Zan;exact PuA));first|refine⟨_,EndsA,ZBf,?_⟩|refine fin ?_))
   exact⟨(j+1,decide (y=r.name)),OA,⟨OA,by rw[<- hij,t];simp⟩,SFA,SOA⟩
  simp only[decide_eq_false_iff_not,Int.ofNat_lt]at e
  rw[List.drop_eq_nil_of_le (by omega)]at hij
  simp only[memB,Bool.or_false]at hij
  repeat (first|refine ZdW ?_|(refine jn ?_;(try intro F);(refine bx ?_;intro d);refine fin ?_))
  refine Zaf rfl (fun f=>?_) (fun f=>?_)
  ·have hnb:=hna
   have hcb:=hca
   simp only[Bool.not_eq_true']at f
   rw[<- hij,f]at hi
   repeat (first|(apply RL_pu;rfl;exact PuI)|refine walk1 ?_|(refine jn ?_;(try intro F);(first|(apply ZaC;rfl;rfl;(intro A' c';(focus repeat' constructor));(intro w' _ u;exact Zbr (u.of cS_));rfl;rfl;(simp only[maxLen];omega);omega;intro A' c' H e I)|(refine bx ?_;intro d));first|refine⟨_,EndsA,QFI,?_⟩|refine fin ?_))
   exact⟨⟨k+1,A',c',m+1,xs++ZaR r.name,acc++[r.name]⟩,OA,⟨OA,by simp[hm],by rw[hx];exact ZbB acc r.name,OA,by rw[<- hi];simp⟩,SFA,SOA⟩
  simp only[Bool.not_eq_false']at f
  rw[<- hij,f]at hi
  repeat (first|refine ZdW ?_|(refine jn ?_;(try intro F);(refine bx ?_;intro d);refine fin ?_))
  exact⟨⟨k+1,A,c,m,xs,acc⟩,OA,⟨OA,hm,hx,OA,by rw[<- hi];simp⟩,SFA,SOA⟩
 simp only[decide_eq_false_iff_not,Int.ofNat_lt]at q
 rw[List.drop_eq_nil_of_le (by omega),ZbM]at hi
 subst hi
 repeat (first|refine ZdW ?_|(refine jn ?_;(try intro F);(refine bx ?_;intro d);refine fin ?_))
 exact ret_1 _ [.row (.slice A acc.length c) 9 1 acc.length (acc.flatMap ZaR)] (.tmp rfl) (by subst hm hx;exact SOA) ⟨A,c,by rw[hm],rfl⟩
end Go.Proofs.YtpipekfmecikmaaGreatDoor
namespace Go.Proofs.YtpipekfmecikmaaGreatDoor
open Go Go.RowKit Go.Wk
def ZaK (x:ByteArray):List DZone->Nat->Option Nat
 | [],_=>none
 | z::l,k=>if z.name=x then some k else ZaK x l (k+1)
def ZaO (x:ByteArray):List DLink->Nat->Option Nat
 | [],_=>none
 | z::l,k=>if z.name=x then some k else ZaO x l (k+1)
def ZaI (s:DSource):Nat->List ByteArray->ByteArray->Nat × Int
 | 0,_,_=>(0,11)
 | fuel+1,seen,x =>
  match ZaK x s.zones 0 with
  | some i=>(i,0)
  | none=>match ZaO x s.links 0 with
   | none=>(0,9)
   | some i=>if memB x seen then (0,11) else ZaI s fuel (x::seen) ((s.links[i]?).map (·.target) |>.getD ByteArray.empty)
def Za8 (s:DSource):List DZone->Nat->Option (Zar × Int)
 | [],_=>none
 | z::l,i=>if Zfl z.name=false then some (⟨2,i,0⟩,9) else if ZaK z.name s.zones 0≠some i then some (⟨2,i,0⟩,10) else Za8 s l (i+1)
def Zbp (s:DSource):List DLink->Nat->Option (Zar × Int)
 | [],_=>none
 | l::ls,i =>
  if Zfl l.name=false then some (⟨3,i,0⟩,9)
  else if (ZaK l.name s.zones 0).isSome\/ZaO l.name s.links 0≠some i then some (⟨3,i,0⟩,10)
  else if (ZaK l.target s.zones 0).isNone/\(ZaO l.target s.links 0).isNone then some (⟨3,i,0⟩,9)
  else Zbp s ls (i+1)
def Zbo (s:DSource):List DLink->Nat->Option (Zar × Int)
 | [],_=>none
 | l::ls,i=>if (ZaI s (s.links.length+1) [] l.name).2=11 then some (⟨3,i,0⟩,11) else Zbo s ls (i+1)
def Zdm (s:DSource):Option (Zar × Int):=(Za8 s s.zones 0).or ((Zbp s s.links 0).or (Zbo s s.links 0))
def insE (e:Zac):List Zac->List Zac
 | []=>[e]
 | x::l=>if ordE x e<0 then e::x::l else x::insE e l
def ZkH (least y:Int):List DRule->Nat->List Zac->List Zac
 | [],_,acc=>acc
 | r::l,i,acc=>ZkH least y l (i+1) (match onR least r i y with|some e=>insE e acc|none=>acc)
def Zdb (l:List DRule)(least from_:Int):Nat->List Zac
 | 0=>[]
 | k+1=>ZkH least (from_+k) l 0 (Zdb l least from_ k)
def Ze0:List Zac->Option Zac
 | []=>none
 | [_]=>none
 | a::b::l=>(Ze0 (b::l)).or (if a.nominal - b.nominal<259200 then some a else none)
def Zen (l:List DRule):Option Zac:=Ze0 (Zdb l (Zae l) 1850 701)
def evIn (least nominal:Int)(r:DRule)(i y:Int):Nat->Option Zac
 | 0=>none
 | k+1=>match onR least r i y with
  | some e=>if nominal<e.nominal then some e else evIn least nominal r i (y+1) k
  | none=>evIn least nominal r i (y+1) k
def ZaY (least nominal yr:Int):List DRule->Nat->Option Zac->Option Zac
 | [],_,best=>best
 | r::l,i,best =>
  ZaY least nominal yr l (i+1) (match evIn least nominal r i (max (max r.from_ (-2000000000)) (yr - 2)) 20 with
   | none=>best
   | some e=>match best with|none=>some e|some b=>if ordE e b<0 then some e else some b)
def ZbC (l:List DRule)(nominal:Int):Option Zac:=ZaY (Zae l) nominal (Zay nominal) l 0 none
def farD (l:List DRule)(nominal:Int):Bool :=
 match ZbC l (nominal - 259200) with
 | none=>true
 | some e=>decide (259200<=e.nominal - nominal)
def Zdi (s:DSource):Option (Zar × Int) :=
 if 2000<s.rules.length then some (⟨1,2000,0⟩,7)
 else if 500<s.zones.length then some (⟨2,500,0⟩,7)
 else match s.zones.findIdx? fun z=>decide (60<z.eras.length) with
  | some i=>some (⟨2,i,60⟩,7)
  | none=>if 1000<s.links.length then some (⟨3,1000,0⟩,7) else if 2000<s.shifts.length then some (⟨4,2000,0⟩,7) else none
def Zcb (set:ByteArray):List DRule->Nat->Nat->Zar
 | [],_,_=>⟨0,0,0⟩
 | r::l,i,k=>if r.name=set then (match i with|0=>⟨1,k,0⟩|i+1=>Zcb set l i (k+1)) else Zcb set l i (k+1)
def Zca (rs:List DRule)(x:ByteArray):Option (Nat × Int) :=
 if setB x=false then some (0,9)
 else if (ZcE (ofB rs x)).2≠0 then some (ZcE (ofB rs x))
 else match Zen (ofB rs x) with|some e=>some (e.rule.toNat,13)|none=>none
def ZcJ (rs:List DRule):List ByteArray->Option (Zar × Int)
 | []=>none
 | x::l=>match Zca rs x with|some (i,e)=>some (Zcb x rs i 0,e)|none=>ZcJ rs l
def Zfm (s:DSource):Option (Zar × Int):=ZcJ s.rules (ZbM s.rules [])
def Za0 (s:DSource):List ByteArray->List ByteArray->Nat->Option (Zar × Int)
 | [],_,_=>none
 | x::l,seen,i =>
  let r:=ofB s.rules x
  if r=[] then some (⟨4,i,0⟩,9)
  else if memB x seen then some (⟨4,i,0⟩,10)
  else if Zae r≠0\/(Zb1 r).2=false then some (⟨4,i,0⟩,14)
  else Za0 s l (seen++[x]) (i+1)
def ZaA (rs:List DRule)(e:DEra):List DRule:=if e.kind=2 then ofB rs e.set else []
def ZaB (rs:List DRule)(e:DEra):List (Int × ByteArray):=if e.kind=1 then [(e.save,ByteArray.empty)] else if e.kind=2 then (ZaA rs e).map fun r=>(r.save,r.letter) else [(0,ByteArray.empty)]
def Za1 (off save:Int):Bool:=decide (-54000<=off+save)&&decide (off+save<=54000)
def dU0:DUntil:=⟨false,0,0,⟨0,0,0⟩,⟨0,0⟩⟩
def Zdt (e:DEra):Bool:=(!decide (e.kind=1)&&!decide (e.save=0))||(!decide (e.kind=2)&&!decide (e.set=ByteArray.empty))||(!e.til.is&&!decide ({ e.til with is:=false }=dU0))
def Zdq (rs:List DRule)(e:DEra)(first:Bool):Int :=
 if e.kind<0\/2<e.kind then 2
 else if first=true/\e.kind=2 then 12
 else if e.kind=2/\ZaA rs e=[] then 9
 else if e.kind=1/\(e.save<1\/10800<e.save) then 14
 else if Za1 e.off 0=false\/((ZaB rs e).any fun x => !Za1 e.off x.1)=true then 3
 else if Zdt e then 2
 else Zem e (ZaA rs e)
def dE0:DEra:=⟨0,0,0,ByteArray.empty,ByteArray.empty,dU0⟩
def Zc9 (rs:List DRule)(l:List DEra)(k:Nat):Int :=
 let e:=l.getD k dE0
 if e.til.is≠decide (k+1<l.length) then 12
 else if e.til.is=false then 0
 else
  let least:=Zae (ZaA rs e)
  if ZaF e.til least≠0 then ZaF e.til least
  else
   let n:=(Zao e.til least).1
   let b:=l.getD (k - 1) dE0
   if 0<k/\((Zao b.til (Zae (ZaA rs b))).2≠0\/n - (Zao b.til (Zae (ZaA rs b))).1<259200) then 12
   else if e.kind=2/\farD (ZaA rs e) n=false then 13
   else 0
def addP (x:Int × List UInt8)(l:List (Int × List UInt8)):List (Int × List UInt8):=if x∈l then l else l++[x]
def addA (x:List UInt8)(l:List (List UInt8)):List (List UInt8):=if x∈l then l else l++[x]
def stGo (e:DEra):List (Int × ByteArray)->List (Int × List UInt8) × List (List UInt8)->List (Int × List UInt8) × List (List UInt8)
 | [],acc=>acc
 | x::l,acc =>
  let a:=(Zdx e.format.data.toList e.off x.1 x.2.data.toList).1
  stGo e l (addP (e.off+x.1,a) acc.1,addA a acc.2)
def erGo (rs:List DRule):List DEra->List (Int × List UInt8) × List (List UInt8)->List (Int × List UInt8) × List (List UInt8)
 | [],acc=>acc
 | e::l,acc=>erGo rs l (stGo e (ZaB rs e) acc)
def Zdd:List (List UInt8)->Nat
 | []=>0
 | x::l=>x.length+1+Zdd l
def ZeU (rs:List DRule)(z:DZone):Bool:=decide ((erGo rs z.eras ([],[])).1.length<=120)&&decide (Zdd (erGo rs z.eras ([],[])).2<=250)
def Zcd (rs:List DRule)(l:List DEra)(i:Nat):Nat->Nat->Option (Zar × Int)
 | 0,_=>none
 | f+1,k =>
  if Zdq rs (l.getD k dE0) (decide (k=0))≠0 then some (⟨2,i,k⟩,Zdq rs (l.getD k dE0) (decide (k=0)))
  else if Zc9 rs l k≠0 then some (⟨2,i,k⟩,Zc9 rs l k)
  else Zcd rs l i f (k+1)
def Zbe (rs:List DRule):List DZone->Nat->Option (Zar × Int)
 | [],_=>none
 | z::l,i =>
  if z.eras=[] then some (⟨2,i,0⟩,4)
  else match Zcd rs z.eras i z.eras.length 0 with
   | some x=>some x
   | none=>if ZeU rs z=false then some (⟨2,i,0⟩,7) else Zbe rs l (i+1)
def accD (s:DSource):Option (Zar × Int):=(Zdi s).or ((Zfm s).or ((Za0 s s.shifts [] 0).or ((Zdm s).or (Zbe s.rules s.zones 0))))
