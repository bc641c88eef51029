/- Parts of the proof. -/
import Derived.Shelf.Lay
import Derived.Shelf.Strconv.Itoa4
import Derived.Shelf.Strings.IndexAnyAll
import Derived.Shelf.Strings.Prefix
import Derived.Test.YtdlmhmmhdbbliaaGreatDoorV06
import Derived.Lib.AppendIntMem
import Derived.Test.YtdlmhmmhdbbliaaGreatDoorV38
set_option maxHeartbeats 4000000
set_option linter.unusedVariables false
set_option linter.unusedSimpArgs false
namespace Go.Proofs.YtdlmhmmhdbbliaaGreatDoor
open Go.Shelf Go.RowKit Go.Lib
def ZtS:Ren where
 f:=fun|173=>118|246=>86|283=>126|284=>127|285=>128|286=>129|129=>169|317=>168|318=>170|319=>171|320=>172|337=>207|338=>208|n=>n
 t:=fun|2=>2|3=>3|9=>9|4=>4|171=>215|0=>0|53=>216|37=>24|5=>5|173=>219|212=>253|51=>54|20=>20|213=>254|46=>255|232=>312|233=>313|n=>n
 g:=fun|17=>5|18=>12|19=>13|n=>n
theorem ZBv:Lays.n173 Tryz.prog ZtS where
 mixed:=by kernel_rfl
 f129:=Tryz.func169.trans (congrArg some (by kernel_rfl))
 f173:=Tryz.func118.trans (congrArg some (by kernel_rfl))
 f246:=Tryz.func86.trans (congrArg some (by kernel_rfl))
 f283:=Tryz.func126.trans (congrArg some (by kernel_rfl))
 f284:=Tryz.func127.trans (congrArg some (by kernel_rfl))
 f285:=Tryz.func128.trans (congrArg some (by kernel_rfl))
 f286:=Tryz.func129.trans (congrArg some (by kernel_rfl))
 f317:=Tryz.func168.trans (congrArg some (by kernel_rfl))
 f318:=Tryz.func170.trans (congrArg some (by kernel_rfl))
 f319:=Tryz.func171.trans (congrArg some (by kernel_rfl))
 f320:=Tryz.func172.trans (congrArg some (by kernel_rfl))
 f337:=Tryz.func207.trans (congrArg some (by kernel_rfl))
 f338:=Tryz.func208.trans (congrArg some (by kernel_rfl))
 t0:=Tryz.underlying0
 a0:=Tryz.isAgg0
 z0:=Tryz.sizeOf0
 v0:=Tryz.zeroValue0
 t2:=Tryz.underlying2
 a2:=Tryz.isAgg2
 z2:=Tryz.sizeOf2
 v2:=Tryz.zeroValue2
 t3:=Tryz.underlying3
 a3:=Tryz.isAgg3
 z3:=Tryz.sizeOf3
 v3:=Tryz.zeroValue3
 t4:=Tryz.underlying4
 a4:=Tryz.isAgg4
 z4:=Tryz.sizeOf4
 v4:=Tryz.zeroValue4
 t5:=Tryz.underlying5
 a5:=Tryz.isAgg5
 z5:=Tryz.sizeOf5
 v5:=Tryz.zeroValue5
 t9:=Tryz.underlying9
 a9:=Tryz.isAgg9
 z9:=Tryz.sizeOf9
 v9:=Tryz.zeroValue9
 t20:=Tryz.underlying20
 a20:=Tryz.isAgg20
 z20:=Tryz.sizeOf20
 v20:=Tryz.zeroValue20
 t37:=Tryz.underlying24
 a37:=Tryz.isAgg24
 z37:=Tryz.sizeOf24
 v37:=Tryz.zeroValue24
 t46:=Tryz.underlying255
 a46:=Tryz.isAgg255
 z46:=Tryz.sizeOf255
 v46:=Tryz.zeroValue255
 t51:=Tryz.underlying54
 a51:=Tryz.isAgg54
 z51:=Tryz.sizeOf54
 v51:=Tryz.zeroValue54
 t53:=Tryz.underlying216
 a53:=Tryz.isAgg216
 z53:=Tryz.sizeOf216
 v53:=Tryz.zeroValue216
 t171:=Tryz.underlying215
 a171:=Tryz.isAgg215
 z171:=Tryz.sizeOf215
 v171:=Tryz.zeroValue215
 t173:=Tryz.underlying219
 a173:=Tryz.isAgg219
 z173:=Tryz.sizeOf219
 v173:=Tryz.zeroValue219
 t212:=Tryz.underlying253
 a212:=Tryz.isAgg253
 z212:=Tryz.sizeOf253
 v212:=Tryz.zeroValue253
 t213:=Tryz.underlying254
 a213:=Tryz.isAgg254
 z213:=Tryz.sizeOf254
 t232:=Tryz.underlying312
 a232:=Tryz.isAgg312
 z232:=Tryz.sizeOf312
 v232:=Tryz.zeroValue312
 t233:=Tryz.underlying313
 a233:=Tryz.isAgg313
 z233:=Tryz.sizeOf313
 v233:=Tryz.zeroValue313
 g17:=by kernel_rfl
 g18:=by kernel_rfl
 g19:=by kernel_rfl
def ZtD:Ren where
 f:=fun|171=>16|243=>51|246=>86|283=>126|284=>127|285=>128|286=>129|129=>169|317=>168|318=>170|319=>171|320=>172|337=>207|338=>208|n=>n
 t:=fun|3=>3|9=>9|2=>2|4=>4|171=>215|0=>0|53=>216|37=>24|5=>5|173=>219|212=>253|51=>54|20=>20|213=>254|46=>255|232=>312|233=>313|n=>n
 g:=fun|17=>5|18=>12|19=>13|n=>n
theorem ZAB:LaysM.n171 Tryz.prog ZtD where
 mixed:=by kernel_rfl
 f129:=Tryz.func169.trans (congrArg some (by kernel_rfl))
 f171:=Tryz.func16.trans (congrArg some (by kernel_rfl))
 f243:=Tryz.func51.trans (congrArg some (by kernel_rfl))
 f246:=Tryz.func86.trans (congrArg some (by kernel_rfl))
 f283:=Tryz.func126.trans (congrArg some (by kernel_rfl))
 f284:=Tryz.func127.trans (congrArg some (by kernel_rfl))
 f285:=Tryz.func128.trans (congrArg some (by kernel_rfl))
 f286:=Tryz.func129.trans (congrArg some (by kernel_rfl))
 f317:=Tryz.func168.trans (congrArg some (by kernel_rfl))
 f318:=Tryz.func170.trans (congrArg some (by kernel_rfl))
 f319:=Tryz.func171.trans (congrArg some (by kernel_rfl))
 f320:=Tryz.func172.trans (congrArg some (by kernel_rfl))
 f337:=Tryz.func207.trans (congrArg some (by kernel_rfl))
 f338:=Tryz.func208.trans (congrArg some (by kernel_rfl))
 t0:=Tryz.underlying0
 a0:=Tryz.isAgg0
 z0:=Tryz.sizeOf0
 v0:=Tryz.zeroValue0
 t2:=Tryz.underlying2
 a2:=Tryz.isAgg2
 z2:=Tryz.sizeOf2
 v2:=Tryz.zeroValue2
 t3:=Tryz.underlying3
 a3:=Tryz.isAgg3
 z3:=Tryz.sizeOf3
 v3:=Tryz.zeroValue3
 t4:=Tryz.underlying4
 a4:=Tryz.isAgg4
 z4:=Tryz.sizeOf4
 v4:=Tryz.zeroValue4
 t5:=Tryz.underlying5
 a5:=Tryz.isAgg5
 z5:=Tryz.sizeOf5
 v5:=Tryz.zeroValue5
 t9:=Tryz.underlying9
 a9:=Tryz.isAgg9
 z9:=Tryz.sizeOf9
 v9:=Tryz.zeroValue9
 t20:=Tryz.underlying20
 a20:=Tryz.isAgg20
 z20:=Tryz.sizeOf20
 v20:=Tryz.zeroValue20
 t37:=Tryz.underlying24
 a37:=Tryz.isAgg24
 z37:=Tryz.sizeOf24
 v37:=Tryz.zeroValue24
 t46:=Tryz.underlying255
 a46:=Tryz.isAgg255
 z46:=Tryz.sizeOf255
 v46:=Tryz.zeroValue255
 t51:=Tryz.underlying54
 a51:=Tryz.isAgg54
 z51:=Tryz.sizeOf54
 v51:=Tryz.zeroValue54
 t53:=Tryz.underlying216
 a53:=Tryz.isAgg216
 z53:=Tryz.sizeOf216
 v53:=Tryz.zeroValue216
 t171:=Tryz.underlying215
 a171:=Tryz.isAgg215
 z171:=Tryz.sizeOf215
 v171:=Tryz.zeroValue215
 t173:=Tryz.underlying219
 a173:=Tryz.isAgg219
 z173:=Tryz.sizeOf219
 v173:=Tryz.zeroValue219
 t212:=Tryz.underlying253
 a212:=Tryz.isAgg253
 z212:=Tryz.sizeOf253
 v212:=Tryz.zeroValue253
 t213:=Tryz.underlying254
 a213:=Tryz.isAgg254
 z213:=Tryz.sizeOf254
 t232:=Tryz.underlying312
 a232:=Tryz.isAgg312
 z232:=Tryz.sizeOf312
 v232:=Tryz.zeroValue312
 t233:=Tryz.underlying313
 a233:=Tryz.isAgg313
 z233:=Tryz.sizeOf313
 v233:=Tryz.zeroValue313
 g17:=by kernel_rfl
 g18:=by kernel_rfl
 g19:=by kernel_rfl
 i0:=by kernel_rfl
 i2:=by kernel_rfl
 i3:=by kernel_rfl
 i4:=by kernel_rfl
 i5:=by kernel_rfl
 i9:=by kernel_rfl
 i20:=by kernel_rfl
 i37:=by kernel_rfl
 i46:=by kernel_rfl
 i51:=by kernel_rfl
 i53:=by kernel_rfl
 i171:=by kernel_rfl
 i173:=by kernel_rfl
 i212:=by kernel_rfl
 i232:=by kernel_rfl
 i233:=by kernel_rfl
 m17:=by kernel_rfl
 m18:=by kernel_rfl
 m19:=by kernel_rfl
def Zss:Ren where
 f:=fun|102=>79|209=>120|207=>163|n=>n
 t:=fun|9=>9|4=>4|3=>3|n=>n
 g:=fun n=>n
theorem ZBh:Lays.n102 Tryz.prog Zss where
 mixed:=by kernel_rfl
 f102:=Tryz.func79.trans (congrArg some (by kernel_rfl))
 f207:=Tryz.func163.trans (congrArg some (by kernel_rfl))
 f209:=Tryz.func120.trans (congrArg some (by kernel_rfl))
 t3:=Tryz.underlying3
 a3:=Tryz.isAgg3
 z3:=Tryz.sizeOf3
 v3:=Tryz.zeroValue3
 t4:=Tryz.underlying4
 a4:=Tryz.isAgg4
 z4:=Tryz.sizeOf4
 v4:=Tryz.zeroValue4
 t9:=Tryz.underlying9
 a9:=Tryz.isAgg9
 z9:=Tryz.sizeOf9
 v9:=Tryz.zeroValue9
def Zuj:Ren where
 f:=fun|150=>77|153=>117|152=>161|226=>162|227=>110|228=>157|137=>198|119=>199|224=>200|225=>201|217=>224|266=>236|n=>n
 t:=fun|9=>9|4=>4|3=>3|5=>5|21=>21|117=>199|116=>198|0=>0|46=>255|124=>202|n=>n
 g:=fun n=>n
theorem ZBz:Lays.n150 Tryz.prog Zuj where
 mixed:=by kernel_rfl
 f119:=Tryz.func199.trans (congrArg some (by kernel_rfl))
 f137:=Tryz.func198.trans (congrArg some (by kernel_rfl))
 f150:=Tryz.func77.trans (congrArg some (by kernel_rfl))
 f152:=Tryz.func161.trans (congrArg some (by kernel_rfl))
 f153:=Tryz.func117.trans (congrArg some (by kernel_rfl))
 f217:=Tryz.func224.trans (congrArg some (by kernel_rfl))
 f224:=Tryz.func200.trans (congrArg some (by kernel_rfl))
 f225:=Tryz.func201.trans (congrArg some (by kernel_rfl))
 f226:=Tryz.func162.trans (congrArg some (by kernel_rfl))
 f227:=Tryz.func110.trans (congrArg some (by kernel_rfl))
 f228:=Tryz.func157.trans (congrArg some (by kernel_rfl))
 f266:=Tryz.func236.trans (congrArg some (by kernel_rfl))
 t0:=Tryz.underlying0
 a0:=Tryz.isAgg0
 z0:=Tryz.sizeOf0
 v0:=Tryz.zeroValue0
 t3:=Tryz.underlying3
 a3:=Tryz.isAgg3
 z3:=Tryz.sizeOf3
 v3:=Tryz.zeroValue3
 t4:=Tryz.underlying4
 a4:=Tryz.isAgg4
 z4:=Tryz.sizeOf4
 v4:=Tryz.zeroValue4
 t5:=Tryz.underlying5
 a5:=Tryz.isAgg5
 z5:=Tryz.sizeOf5
 v5:=Tryz.zeroValue5
 t9:=Tryz.underlying9
 a9:=Tryz.isAgg9
 z9:=Tryz.sizeOf9
 v9:=Tryz.zeroValue9
 t21:=Tryz.underlying21
 a21:=Tryz.isAgg21
 z21:=Tryz.sizeOf21
 v21:=Tryz.zeroValue21
 t46:=Tryz.underlying255
 a46:=Tryz.isAgg255
 z46:=Tryz.sizeOf255
 v46:=Tryz.zeroValue255
 t116:=Tryz.underlying198
 a116:=Tryz.isAgg198
 z116:=Tryz.sizeOf198
 t117:=Tryz.underlying199
 a117:=Tryz.isAgg199
 z117:=Tryz.sizeOf199
 v117:=Tryz.zeroValue199
 t124:=Tryz.underlying202
 a124:=Tryz.isAgg202
 z124:=Tryz.sizeOf202
 v124:=Tryz.zeroValue202
end Go.Proofs.YtdlmhmmhdbbliaaGreatDoor
set_option pp.deepTerms true
set_option pp.maxSteps 1000000
namespace Go.Wk
open Go Go.RowKit
def bsL (l:List UInt8):ByteArray:=⟨l.toArray⟩
theorem ZgF (l:List UInt8):(bsL l).data.toList=l:=rfl
theorem ZbM (l:List UInt8):(bsL l).size=l.length:=by
 show(bsL l).data.size=_
 simp[bsL]
theorem Zzv (a b:List UInt8):bsL a++bsL b=bsL (a++b):=by
 unfold bsL
 apply ByteArray.ext
 simp
theorem ZoR {a b:List UInt8}(h:bsL a=bsL b):a=b:=by
 have:=congrArg (fun s=>s.data.toList) h
 exact this
section
variable {P:Program}{n:Nat}{wr:World}{fr:Fr}{O:List It}{ty:TypeId}
theorem ZaZ {t t':TypeId}{x y:Operand}{a b:List UInt8}(hx:ev fr x=some (.string (bsL a)))(hy:ev fr y=some (.string (bsL b)))(h:a.length+b.length<=9223372036854775807):Pu P n wr fr O (.binOp .add t x y t') ty (.string (bsL (a++b))) :=
 Zzv a b▸Ze4 hx hy (by rw[ZbM,ZbM];exact h)
end
end Go.Wk
namespace Go.Proofs.YtdlmhmmhdbbliaaGreatDoor
open Go Go.RowKit Go.Wk Go.Lib
attribute [local irreducible] W RL Does Zau Zak retQ Calls Pu Stp RD Qy Ay Zaj
def PowT (w:World):Prop:=TabIs Tryz.prog w "internal/strconv.uint64pow10" .u64 pow10Tab
theorem PowT.up {w w':World}(h:PowT w)(hb:Bel w.heap.size w w'):PowT w':=tabBelow_of_tabIs h w' hb.toBelow
theorem ZtR (n:Int)(h0:0<=n)(h1:n<100)(w:World):Does Tryz.prog 118 [.int .i64 n,.int .i64 10] w (fun v O=>v = .string (bsL (dgN n))/\O=[]):=by
 have:=ZbF ((Any.strconv_FormatInt_10_small ZBv n.toNat (by omega) w).mono fun e w' ⟨he,hw⟩=>⟨he,hw▸Below.refl _ _⟩)
 rw[show((n.toNat:Nat):Int)=n by omega,Zt5 (by omega)]at this
 exact this
theorem Zh0 (n:Int)(h0:0<=n)(h1:n<100)(w:World):Does Tryz.prog 16 [.int .i64 n] w (fun v O=>v = .string (bsL (dgN n))/\O=[]):=by
 have:=ZbF ((Any.strconv_Itoa_small { ZAB with } n.toNat (by omega) w).mono fun e w' ⟨he,hw⟩=>⟨he,hw▸Below.refl _ _⟩)
 rw[show((n.toNat:Nat):Int)=n by omega,Zt5 (by omega)]at this
 exact this
theorem ZtC (n:Int)(h0:0<=n)(h1:n<1000)(w:World)(hT:PowT w):Does Tryz.prog 16 [.int .i64 n] w (fun v O=>v = .string (bsL (dgN n))/\O=[]):=by
 have:=ZbF ((Any.strconv_Itoa ZAB n (by omega) (by omega) w hT).mono fun e w' ⟨he,k,os,hw⟩=>⟨he,hw▸below_grow _ w (Nat.le_refl _) k os⟩)
 rw[(Zb2 h0 h1).ito]at this
 exact this
theorem ZpF (n:Int)(h0:0<=n)(h1:n<100)(w:World):Does Tryz.prog 119 [.int .i64 n] w (fun v O=>v = .string (bsL (dig2 n))/\O=[]):=by
 have c1:=fun w'=>ZtR n h0 h1 w'
 have hl:=(Zb2 h0 (by omega)).len
 rw[(Zi7 h0 h1).2.2]
 generalize dgN n=D at *
 refine Zaa Tryz.func119 rfl rfl rfl rfl ?_
 repeat (first|refine walk ?_)
 refine Zaf rfl (fun hc=>?_) (fun hc=>?_)
 ·rw[if_pos (of_decide_eq_true hc)]
  repeat (first|(apply RL_pu;rfl;(apply ZaZ (a:=[48]);rfl;rfl;(first|omega|(simp only[List.length_cons,List.length_nil];omega))))|(refine js ?_;(refine Zac (fun w' _=>c1 w') ?_))|refine walk1 ?_)
  exact rtA
 ·rw[if_neg (of_decide_eq_false hc)]
  repeat (first|(refine js ?_;(refine Zac (fun w' _=>c1 w') ?_))|refine walk ?_)
  exact rtA
theorem Zwn (x:Int)(h0 : -359999<=x)(h1:x<=359999)(w:World):Does Tryz.prog 78 [.int .i64 x] w (fun v O=>v = .tuple #[.string (bsL (osL x)),.int .i64 0]/\O=[]):=by
 have hy:0<=absI x/\absI x<=359999:=by unfold absI;split <;> omega
 have b1:decide (x < -604799)=false:=decide_eq_false (by omega)
 have b2:decide (604799<x)=false:=decide_eq_false (by omega)
 have c1:=fun w'=>ZtR (absI x / 3600) (by omega) (by omega) w'
 have c2:=fun w'=>ZpF (absI x / 60 % 60) (by omega) (by omega) w'
 have c3:=fun w'=>ZpF (absI x % 60) (by omega) (by omega) w'
 have l1:=(Zb2 (n:=absI x / 3600) (by omega) (by omega)).len
 have l2:(dig2 (absI x / 60 % 60)).length=2:=rfl
 have l3:(dig2 (absI x % 60)).length=2:=rfl
 have hx:absI x=if x<0 then -x else x:=rfl
 unfold osL
 have hsg:sgL x=if x<0 then [45] else []:=rfl
 generalize hY:absI x=y at *
 generalize dgN (y / 3600)=A at *
 generalize dig2 (y / 60 % 60)=B at *
 generalize dig2 (y % 60)=C at *
 generalize sgL x=S at *
 have lS:S.length<=1:=by rw[hsg];split <;> simp
 refine Zaa Tryz.func78 rfl rfl rfl rfl ?_
 repeat (first|(apply RL_pu;rfl;(first|(apply ZaS;rfl;rfl;exact b1)|(apply ZaC;rfl;rfl;exact b2)))|refine walk1 ?_)
 refine Zbx (fun fr' O'=>Sub [(0,.int .i64 y),(4,.string (bsL S))] fr') ?_ ?_
 ·refine Zaf rfl (fun hc=>?_) (fun hc=>?_)
  ·have hneg:=of_decide_eq_true hc
   rw[if_pos hneg]at hx hsg
   subst hx hsg
   repeat (first|(apply RL_pu;rfl;(apply Zeo;rfl;(constructor <;> omega)))|refine walk1 ?_)
   exact⟨rfl,SFA⟩
  ·have hneg:=of_decide_eq_false hc
   rw[if_neg hneg]at hx hsg
   subst hx hsg
   repeat (first|refine walk ?_)
   exact⟨rfl,SFA⟩
 intro fr' O' hfr
 refine thenQ_n ?_
 refine Zb0 hfr .nil ?_
 repeat (first|(apply RL_pu;rfl;(first|(apply Pu_quo64;rfl;rfl;omega;omega;decide)|(apply Pu_remE;rfl;rfl;omega;decide)|(apply ZaZ (b:=[58]);rfl;rfl;(first|omega|(simp only[List.length_append,List.length_cons,List.length_nil];omega)))|(apply ZaZ;rfl;rfl;(first|omega|(simp only[List.length_append,List.length_cons,List.length_nil];omega)))))|(refine js ?_;(first|(refine Zac (fun w' _=>c1 w') ?_)|(refine Zac (fun w' _=>c2 w') ?_)))|refine walk1 ?_)
 refine Zaf rfl (fun hc=>?_) (fun hc=>?_)
 ·have hn:¬ y % 60=0:=by simpa using hc
  rw[if_neg hn]
  repeat (first|(apply RL_pu;rfl;(first|(apply Pu_remE;rfl;rfl;omega;decide)|(apply ZaZ (a:=[58]);rfl;rfl;(first|omega|(simp only[List.length_append,List.length_cons,List.length_nil];omega)))|(apply ZaZ;rfl;rfl;(first|omega|(simp only[List.length_append,List.length_cons,List.length_nil];omega)))))|(refine js ?_;(refine Zac (fun w' _=>c3 w') ?_))|refine walk1 ?_)
  exact ret_2 _ _ [] (.tmp rfl) (.tmp rfl) .nil ⟨by simp,rfl⟩
 ·have hn:y % 60=0:=by simpa using hc
  rw[if_pos hn]
  repeat (first|refine walk ?_)
  exact ret_2 _ _ [] (.tmp rfl) (.tmp rfl) .nil ⟨by simp,rfl⟩
theorem Zsr (l:List UInt8)(hl:l.length<=1000)(w:World):Does Tryz.prog 79 [.string (bsL l),.string (bsL cz)] w (fun v O=>v = .string (bsL (trimSuffix l cz))/\O=[]) :=
 ZbF ((Any.strings_TrimSuffix ZBh (bsL l) (bsL cz) w (by rw[ZbM];omega)).mono fun e w' ⟨he,hw⟩=>⟨he,hw▸Below.refl _ _⟩)
theorem Zd8 {x:Int}(h0 : -359999<=x)(h1:x<=359999):(osL x).length<=10/\(shL x).length<=10:=by
 have hy:0<=absI x/\absI x<=359999:=by unfold absI;split <;> omega
 have l1:=(Zb2 (n:=absI x / 3600) (by omega) (by omega)).len
 have ls:(sgL x).length<=1:=by unfold sgL;split <;> simp
 unfold osL shL
 refine⟨?_,?_⟩
 ·split <;> simp only[List.length_append,List.length_cons,List.length_nil,dig2] <;> omega
 ·split
  ·simp only[List.length_append,List.length_nil];omega
  ·split <;> simp only[List.length_append,List.length_cons,List.length_nil,dig2] <;> omega
theorem ZjK (l p:List UInt8):(trimSuffix l p).length<=l.length:=by
 unfold trimSuffix
 split
 ·rw[List.length_take];omega
 ·exact Nat.le_refl _
theorem ZgZ (x:Int)(h0 : -359999<=x)(h1:x<=359999)(w:World):Does Tryz.prog 41 [.int .i64 x] w (fun v O=>v = .string (bsL (shL x))/\O=[]):=by
 have c1:=fun w'=>Zwn x h0 h1 w'
 have hl:=Zd8 h0 h1
 have c2:=fun w'=>Zsr (osL x) (by omega) w'
 have c3:=fun w'=>Zsr (trimSuffix (osL x) cz) (by have:=ZjK (osL x) cz;omega) w'
 rw[ZyS (by omega) (by omega)]at c3
 generalize shL x=r at *
 generalize trimSuffix (osL x) cz=q at *
 generalize osL x=p at *
 refine Zaa Tryz.func41 rfl rfl rfl rfl ?_
 repeat (first|(refine js ?_;(first|(refine Zac (fun w' _=>c1 w') ?_)|(refine Zac (fun w' _=>c2 w') ?_)|(refine Zac (fun w' _=>c3 w') ?_)))|refine walk ?_)
 exact rtA
theorem Zmp {l:List UInt8}(h:l.all Zb9=true):∀ (j:Nat) b,l[j]?=some b->b.toNat<128:=fun j b hb=>by
 have hn:=List.all_eq_true.1 h b (List.mem_of_getElem? hb)
 have:∀ x:Fin 256,Zb9 (UInt8.ofNat x.val)=true->x.val<128:=by decide +kernel
 have:=this ⟨b.toNat,b.toNat_lt⟩ (by simpa using hn)
 dsimp only at this
 omega
theorem Zng (cs:List UInt8)(f:UInt8->Bool)(hf:∀ b,cs.contains b=f b):∀ l:List UInt8,containsAny l cs=l.any f/\-1<=indexAny l cs
 | []=>⟨rfl,by show(-1:Int) <= -1;decide⟩
 | b::l=>by
  obtain⟨h1,h2⟩:=Zng cs f hf l
  unfold containsAny at h1 ⊢
  rw[indexAny,List.any_cons,<- h1,<- hf b]
  cases cs.contains b with
  | true=>exact⟨rfl,by show(-1:Int)<=0;decide⟩
  | false =>
   rw[if_neg (by decide),Bool.false_or]
   by_cases h:indexAny l cs = -1
   ·rw[h];exact⟨rfl,by show(-1:Int) <= -1;decide⟩
   ·rw[if_neg (by simpa using h)]
    refine⟨?_,by omega⟩
    rw[Bool.eq_iff_iff,decide_eq_true_eq,decide_eq_true_eq]
    omega
theorem ZfW {l:List UInt8}(h:namL l=true):3<=(quL l).length/\(quL l).length<=9/\l.length<=7:=by
 unfold namL at h
 simp only[Bool.and_eq_true,decide_eq_true_eq]at h
 unfold quL
 split
 ·simp only[List.length_append,List.length_cons,List.length_nil];omega
 ·omega
theorem Zj3 (s:ByteArray)(h:namP s=true)(w:World):Does Tryz.prog 40 [.string s] w (fun v O=>v = .string (bsL (quL s.data.toList))/\O=[]):=by
 have hq:=ZfW h
 have hall:s.data.toList.all Zb9=true:=by
  unfold namP namL at h
  simp only[Bool.and_eq_true]at h
  exact h.2
 have hsz:s.size=s.data.toList.length:=by simp
 have c1:=fun w'=>ZbF (Any.strings_ContainsAny_laid ZBz (by kernel_rfl) s (bsL (ZbY++[43,45])) w' (by omega) (by decide) (Zmp hall) (Zmp (by decide)))
 rw[ZgF,(Zng _ othC ZyU s.data.toList).1]at c1
 unfold quL at hq ⊢
 obtain⟨l,hls⟩:∃ l,s.data.toList=l:=⟨_,rfl⟩
 have hs2:s=bsL l:=by rw[<- hls];rfl
 rw[hls]at hq c1 ⊢
 subst hs2
 clear hls hall hsz h
 generalize l.any othC=a at *
 refine Zaa Tryz.func40 rfl rfl rfl rfl ?_
 cases a with
 | true =>
  repeat (first|(apply RL_pu;rfl;(first|(apply ZaZ (a:=[60]);rfl;rfl;(first|omega|(simp only[List.length_append,List.length_cons,List.length_nil];omega)))|(apply ZaZ (b:=[62]);rfl;rfl;(first|omega|(simp only[List.length_append,List.length_cons,List.length_nil];omega)))))|(refine js ?_;(refine Zac (fun w' _=>c1 w') ?_))|refine walk1 ?_)
  exact ret_1 _ [] (.tmp rfl) .nil ⟨by simp,rfl⟩
 | false =>
  repeat (first|(refine js ?_;(refine Zac (fun w' _=>c1 w') ?_))|refine walk ?_)
  exact rtA
theorem Zlm {d:ZbI}(h:DtOk d):(dtL d).length<=30:=by
 obtain⟨h1,h2⟩:=h
 obtain⟨_,h3⟩:=Zb4 h1
 have hs:=(Zd8 h2.1 h2.2).2
 unfold dtL
 have hd:(if d.sec=7200 then ([]:List UInt8) else 47::shL d.sec).length<=11:=by
  split
  ·simp
  ·simp only[List.length_cons];omega
 generalize (if d.sec=7200 then ([]:List UInt8) else 47::shL d.sec)=T at *
 rw[List.length_append]
 have hh:(if d.kind=1 then 74::dgN d.day else if d.kind=3 then 77::dgN d.month++46::dgN d.week++46::dgN d.day else dgN d.day).length<=15:=by
  have ld:=(Zb2 (n:=d.day) (by omega) (by omega)).len
  rcases h3 with⟨k,_⟩|⟨k,_⟩|⟨k,a,b,c⟩
  ·rw[if_pos k];simp only[List.length_cons];omega
  ·rw[if_neg (by omega),if_neg (by omega)];omega
  ·have lm:=(Zb2 (n:=d.month) (by omega) (by omega)).len
   have lw:=(Zb2 (n:=d.week) (by omega) (by omega)).len
   rw[if_neg (by omega),if_pos k]
   simp only[List.length_append,List.length_cons]
   omega
 omega
theorem Zyq {G:Prop}(h:G:=by(first|(apply ZaZ (a:=[74]);rfl;rfl;(first|omega|(simp only[List.length_append,List.length_cons,List.length_nil];omega)))|(apply Zaw;rfl;rfl;exact b1))):G:=h
theorem Zyp {G:Prop}(h:G:=by(apply Zaw;rfl;rfl;exact b1)):G:=h
theorem Zvj {G:Prop}(h:G:=by(first|(apply ZaZ (a:=[77]);rfl;rfl;(first|omega|(simp only[List.length_append,List.length_cons,List.length_nil];omega)))|(apply ZaZ (b:=[46]);rfl;rfl;(first|omega|(simp only[List.length_append,List.length_cons,List.length_nil];omega)))|(apply ZaZ;rfl;rfl;(first|omega|(simp only[List.length_append,List.length_cons,List.length_nil];omega)))|(apply Zaw;rfl;rfl;exact b1))):G:=h
theorem ZxS {G:Prop}(h:G:=by first|(apply Qy_y;rfl;exact Zvj)|exact QyA):G:=h
theorem Zx4 {G:Prop}(h:G:=by repeat (first|exact QF.nil|(apply QF.mk;rfl;rfl;decide +kernel;exact ZxS))):G:=h
theorem Zyo {G:Prop}(h:G:=by(first|(apply ZaZ (a:=[74]);rfl;rfl;(first|omega|(simp only[List.length_append,List.length_cons,List.length_nil];omega)))|(apply ZaZ (b:=[47]);rfl;rfl;(first|omega|(simp only[List.length_append,List.length_cons,List.length_nil];omega)))|(apply ZaZ;rfl;rfl;(first|omega|(simp only[List.length_append,List.length_cons,List.length_nil];omega)))|(apply Zaw;rfl;rfl;exact b1))):G:=h
theorem Zvk {G:Prop}(h:G:=by(first|(apply ZaZ (b:=[47]);rfl;rfl;(first|omega|(simp only[List.length_append,List.length_cons,List.length_nil];omega)))|(apply ZaZ;rfl;rfl;(first|omega|(simp only[List.length_append,List.length_cons,List.length_nil];omega)))|(apply Zaw;rfl;rfl;exact b1))):G:=h
theorem Zpj {G:Prop}(h:G:=by(first|(apply ZaZ (a:=[77]);rfl;rfl;(first|omega|(simp only[List.length_append,List.length_cons,List.length_nil];omega)))|(apply ZaZ (b:=[46]);rfl;rfl;(first|omega|(simp only[List.length_append,List.length_cons,List.length_nil];omega)))|(apply ZaZ (b:=[47]);rfl;rfl;(first|omega|(simp only[List.length_append,List.length_cons,List.length_nil];omega)))|(apply ZaZ;rfl;rfl;(first|omega|(simp only[List.length_append,List.length_cons,List.length_nil];omega)))|(apply Zaw;rfl;rfl;exact b1))):G:=h
theorem ZuM {G:Prop}(h:G:=by first|(apply Qy_y;rfl;exact Zpj)|exact QyA):G:=h
theorem ZuW {G:Prop}(h:G:=by repeat (first|exact QF.nil|(apply QF.mk;rfl;rfl;decide +kernel;exact ZuM))):G:=h
theorem Zie (d:ZbI)(h:DtOk d)(w:World)(hT:PowT w):Does Tryz.prog 42 [.agg d.enc.toArray] w (fun v O=>v = .string (bsL (dtL d))/\O=[]):=by
 obtain⟨h1,h2⟩:=h
 obtain⟨_,h3⟩:=Zb4 h1
 clear h1
 have hs:=(Zd8 h2.1 h2.2).2
 have c1:=fun w' (hw:Bel w.heap.size w w')=>ZtC d.day (by omega) (by omega) w' (hT.up hw)
 have c2:=fun w'=>ZgZ d.sec h2.1 h2.2 w'
 have ld:=(Zb2 (n:=d.day) (by omega) (by omega)).len
 have e:dtL d=(if d.kind=1 then 74::dgN d.day else if d.kind=3 then 77::dgN d.month++46::dgN d.week++46::dgN d.day else dgN d.day)++if d.sec=7200 then [] else 47::shL d.sec:=rfl
 rw[e]
 clear e
 obtain⟨k,dd,m,wk,s⟩:=d
 dsimp only at *
 generalize shL s=q at *
 generalize dgN dd=D at *
 show Does _ _ [.agg #[.int .i64 k,.int .i64 dd,.int .i64 m,.int .i64 wk,.int .i64 s]] w _
 by_cases h7:s=7200
 ·have b1:decide (s=7200)=true:=decide_eq_true h7
  rw[if_pos h7]
  rcases h3 with⟨rfl,_⟩|⟨rfl,_⟩|⟨rfl,a,b,_⟩
  ·refine Zaa Tryz.func42 rfl rfl rfl rfl ?_
   repeat (first|(apply RL_pu;rfl;exact Zyq)|(apply RD_Q;rfl;rfl;decide +kernel;rfl;rfl;exact QyPxP6)|refine walk1 ?_|(refine jg ?_;(try intro F);(first|(refine Zac c1 ?_)|(refine Zac (fun w' _=>c2 w') ?_)|(refine bx ?_;intro bk));first|refine⟨_,EndsA,QFPxP6,?_⟩|refine fin ?_)|(refine jn ?_;(try intro F);(first|(refine bx ?_;intro bk)|(apply Zae;first|exact Zyq|exact PuA));first|refine⟨_,EndsA,QFPxP6,?_⟩|refine fin ?_))
   exact ret_1 _ [] (.tmp rfl) .nil ⟨by simp,rfl⟩
  ·refine Zaa Tryz.func42 rfl rfl rfl rfl ?_
   repeat (first|(apply RL_pu;rfl;exact Zyp)|(apply RD_Q;rfl;rfl;decide +kernel;rfl;rfl;exact QyPxP7)|refine walk1 ?_|(refine jg ?_;(try intro F);(first|(refine Zac c1 ?_)|(refine Zac (fun w' _=>c2 w') ?_)|(refine bx ?_;intro bk));first|refine⟨_,EndsA,QFPxP7,?_⟩|refine fin ?_)|(refine jn ?_;(try intro F);(first|(refine bx ?_;intro bk)|(apply Zae;first|exact Zyp|exact PuA));first|refine⟨_,EndsA,QFPxP7,?_⟩|refine fin ?_))
   exact ret_1 _ [] (.tmp rfl) .nil ⟨by simp,rfl⟩
  ·have c3:=fun w'=>Zh0 m (by omega) (by omega) w'
   have c4:=fun w'=>Zh0 wk (by omega) (by omega) w'
   have lm:=(Zb2 (n:=m) (by omega) (by omega)).len
   have lw:=(Zb2 (n:=wk) (by omega) (by omega)).len
   generalize dgN m=M at *
   generalize dgN wk=K at *
   refine Zaa Tryz.func42 rfl rfl rfl rfl ?_
   repeat (first|(apply RL_pu;rfl;exact Zvj)|(apply RD_Q;rfl;rfl;decide +kernel;rfl;rfl;exact ZxS)|refine walk1 ?_|(refine jg ?_;(try intro F);(first|(refine Zac c1 ?_)|(refine Zac (fun w' _=>c2 w') ?_)|(refine Zac (fun w' _=>c3 w') ?_)|(refine Zac (fun w' _=>c4 w') ?_)|(refine bx ?_;intro bk));first|refine⟨_,EndsA,Zx4,?_⟩|refine fin ?_)|(refine jn ?_;(try intro F);(first|(refine bx ?_;intro bk)|(apply Zae;first|exact Zvj|exact PuA));first|refine⟨_,EndsA,Zx4,?_⟩|refine fin ?_))
   exact ret_1 _ [] (.tmp rfl) .nil ⟨by simp,rfl⟩
 ·have b1:decide (s=7200)=false:=decide_eq_false h7
  rw[if_neg h7]
  rcases h3 with⟨rfl,_⟩|⟨rfl,_⟩|⟨rfl,a,b,_⟩
  ·refine Zaa Tryz.func42 rfl rfl rfl rfl ?_
   repeat (first|(apply RL_pu;rfl;exact Zyo)|(apply RD_Q;rfl;rfl;decide +kernel;rfl;rfl;exact QyPxP9)|refine walk1 ?_|(refine jg ?_;(try intro F);(first|(refine Zac c1 ?_)|(refine Zac (fun w' _=>c2 w') ?_)|(refine bx ?_;intro bk));first|refine⟨_,EndsA,QFPxP9,?_⟩|refine fin ?_)|(refine jn ?_;(try intro F);(first|(refine bx ?_;intro bk)|(apply Zae;first|exact Zyo|exact PuA));first|refine⟨_,EndsA,QFPxP9,?_⟩|refine fin ?_))
   exact ret_1 _ [] (.tmp rfl) .nil ⟨by simp,rfl⟩
  ·refine Zaa Tryz.func42 rfl rfl rfl rfl ?_
   repeat (first|(apply RL_pu;rfl;exact Zvk)|(apply RD_Q;rfl;rfl;decide +kernel;rfl;rfl;exact QyPxP10)|refine walk1 ?_|(refine jg ?_;(try intro F);(first|(refine Zac c1 ?_)|(refine Zac (fun w' _=>c2 w') ?_)|(refine bx ?_;intro bk));first|refine⟨_,EndsA,QFPxP10,?_⟩|refine fin ?_)|(refine jn ?_;(try intro F);(first|(refine bx ?_;intro bk)|(apply Zae;first|exact Zvk|exact PuA));first|refine⟨_,EndsA,QFPxP10,?_⟩|refine fin ?_))
   exact ret_1 _ [] (.tmp rfl) .nil ⟨by simp,rfl⟩
  ·have c3:=fun w'=>Zh0 m (by omega) (by omega) w'
   have c4:=fun w'=>Zh0 wk (by omega) (by omega) w'
   have lm:=(Zb2 (n:=m) (by omega) (by omega)).len
   have lw:=(Zb2 (n:=wk) (by omega) (by omega)).len
   generalize dgN m=M at *
   generalize dgN wk=K at *
   refine Zaa Tryz.func42 rfl rfl rfl rfl ?_
   repeat (first|(apply RL_pu;rfl;exact Zpj)|(apply RD_Q;rfl;rfl;decide +kernel;rfl;rfl;exact ZuM)|refine walk1 ?_|(refine jg ?_;(try intro F);(first|(refine Zac c1 ?_)|(refine Zac (fun w' _=>c2 w') ?_)|(refine Zac (fun w' _=>c3 w') ?_)|(refine Zac (fun w' _=>c4 w') ?_)|(refine bx ?_;intro bk));first|refine⟨_,EndsA,ZuW,?_⟩|refine fin ?_)|(refine jn ?_;(try intro F);(first|(refine bx ?_;intro bk)|(apply Zae;first|exact Zpj|exact PuA));first|refine⟨_,EndsA,ZuW,?_⟩|refine fin ?_))
   exact ret_1 _ [] (.tmp rfl) .nil ⟨by simp,rfl⟩
theorem ZsX {p:ZaQ}(hp:PxOk p)(hs:PxSm p):(prL p).length<=100:=by
 have h1:=ZfW hp.std
 have ho:=ZdB hp.so
 have h2:=(Zd8 (x := -p.stdOff) (by omega) (by omega)).2
 unfold prL
 split
 ·simp only[List.length_append,List.length_nil];omega
 ·rename_i hd
  rcases hp.dst with hh|⟨g1,g2,g3,g4⟩
  ·rw[hh]at hd;exact absurd rfl hd
  obtain⟨s1,s2⟩:=hs.resolve_left hd
  have h3:=ZfW g1
  have ho2:=ZdB g2
  have h4:=(Zd8 (x := -p.dstOff) (by omega) (by omega)).2
  have h5:=Zlm s1
  have h6:=Zlm s2
  have h7:(if p.dstOff=p.stdOff+3600 then ([]:List UInt8) else shL (-p.dstOff)).length<=10:=by
   split
   ·simp
   ·exact h4
  generalize (if p.dstOff=p.stdOff+3600 then ([]:List UInt8) else shL (-p.dstOff))=T at *
  simp only[List.length_append,List.length_cons]
  omega
theorem Zpi {G:Prop}(h:G:=by(first|(apply Pu_add;rfl;rfl;(constructor <;> omega))|(apply Zeo;rfl;(constructor <;> omega))|(apply ZaZ;rfl;rfl;(first|omega|(simp only[List.length_append,List.length_cons,List.length_nil];omega)))|(apply ZcY;rfl;rfl;exact b1))):G:=h
theorem ZuL {G:Prop}(h:G:=by first|(apply Qy_y;rfl;exact Zpi)|exact QyA):G:=h
theorem ZuV {G:Prop}(h:G:=by repeat (first|exact QF.nil|(apply QF.mk;rfl;rfl;decide +kernel;exact ZuL))):G:=h
theorem Zph {G:Prop}(h:G:=by(first|(apply Pu_add;rfl;rfl;(constructor <;> omega))|(apply Zeo;rfl;(constructor <;> omega))|(apply ZaZ (b:=[44]);rfl;rfl;(first|omega|(simp only[List.length_append,List.length_cons,List.length_nil];omega)))|(apply ZaZ;rfl;rfl;(first|omega|(simp only[List.length_append,List.length_cons,List.length_nil];omega)))|(apply ZcY;rfl;rfl;exact b1)|(apply Zaz;rfl;rfl;exact b2))):G:=h
theorem ZuK {G:Prop}(h:G:=by first|(apply Qy_y;rfl;exact Zph)|exact QyA):G:=h
theorem Zhr {G:Prop}(h:G:=by repeat (first|exact QF.nil|(apply QF.mk;rfl;rfl;decide +kernel;exact ZuK))):G:=h
theorem Zxo {G G':Prop}(k:G')(h:Hold G'->G:=by intro k9;(first|(apply RL_pu;rfl;exact Zph)|(apply RD_Q;rfl;rfl;decide +kernel;rfl;rfl;exact ZuK)|refine walk1 ?_|(refine jg ?_;(try intro F);(first|(refine Zac (fun w' _=>c1 w') ?_)|(refine Zac (fun w' _=>c2 w') ?_)|(refine Zac (fun w' _=>c3 w') ?_)|(refine Zac (fun w' _=>c4 w') ?_)|(refine Zac (fun w' _=>c5 w') ?_)|(refine Zac c6 ?_)|(refine Zac c7 ?_));first|refine⟨_,EndsA,Zhr,?_⟩|refine fin ?_)|(refine jn ?_;(try intro F);(apply Zae;first|exact Zph|exact PuA);first|refine⟨_,EndsA,Zhr,?_⟩|refine fin ?_));exact k9.out):G:=h ⟨k⟩
theorem Zmh (p:ZaQ)(hp:PxOk p)(hs:PxSm p)(w:World)(hT:PowT w):Does Tryz.prog 13 [.agg p.enc.toArray] w (fun v O=>v = .tuple #[.string (bsL (prL p)),.int .i64 0]/\O=[]):=by
 have hl:=ZsX hp hs
 have c1:=fun w'=>Zfb p hp w'
 have ho:=ZdB hp.so
 have c2:=fun w'=>Zj3 p.std hp.std w'
 have c3:=fun w'=>ZgZ (-p.stdOff) (by omega) (by omega) w'
 have b0:(!decide ((0:Int)=0))=false:=rfl
 unfold prL at hl ⊢
 by_cases hd:p.dst=ByteArray.empty
 ·have b1:decide (p.dst=ByteArray.empty)=true:=decide_eq_true hd
  rw[if_pos hd]at hl ⊢
  clear hp hs
  obtain⟨p1,p2,p3,p4,⟨p5,p6,p7,p8,p9⟩,⟨q1,q2,q3,q4,q5⟩⟩:=p
  dsimp only at *
  generalize quL p1.data.toList=A at *
  generalize shL (-p2)=B at *
  simp only[List.length_append,List.length_nil]at hl
  show Does _ _ [.agg #[.string p1,.int .i64 p2,.string p3,.int .i64 p4,.int .i64 p5,.int .i64 p6,.int .i64 p7,.int .i64 p8,.int .i64 p9,.int .i64 q1,.int .i64 q2,.int .i64 q3,.int .i64 q4,.int .i64 q5]] w _
  refine Zaa Tryz.func13 rfl rfl rfl rfl ?_
  repeat (first|(apply RL_pu;rfl;exact Zpi)|(apply RD_Q;rfl;rfl;decide +kernel;rfl;rfl;exact ZuL)|refine walk1 ?_|(refine jg ?_;(try intro F);(first|(refine Zac (fun w' _=>c1 w') ?_)|(refine Zac (fun w' _=>c2 w') ?_)|(refine Zac (fun w' _=>c3 w') ?_)|(refine bx ?_;intro bk));first|refine⟨_,EndsA,ZuV,?_⟩|refine fin ?_)|(refine jn ?_;(try intro F);(first|(refine bx ?_;intro bk)|(apply Zae;first|exact Zpi|exact PuA));first|refine⟨_,EndsA,ZuV,?_⟩|refine fin ?_))
  exact ret_2 _ _ [] (.tmp rfl) (.tmp rfl) .nil ⟨by simp,rfl⟩
 ·have b1:decide (p.dst=ByteArray.empty)=false:=decide_eq_false hd
  rcases hp.dst with hh|⟨g1,g2,g3,g4⟩
  ·rw[hh]at hd;exact absurd rfl hd
  obtain⟨s1,s2⟩:=hs.resolve_left hd
  have ho2:=ZdB g2
  have c4:=fun w'=>Zj3 p.dst g1 w'
  have c5:=fun w'=>ZgZ (-p.dstOff) (by omega) (by omega) w'
  have c6:=fun w' (hw:Bel w.heap.size w w')=>Zie p.start s1 w' (hT.up hw)
  have c7:=fun w' (hw:Bel w.heap.size w w')=>Zie p.fin s2 w' (hT.up hw)
  rw[if_neg hd]at hl ⊢
  clear hp hs g1 g2 g3 g4 s1 s2 hT
  obtain⟨p1,p2,p3,p4,⟨p5,p6,p7,p8,p9⟩,⟨q1,q2,q3,q4,q5⟩⟩:=p
  dsimp only at *
  generalize quL p1.data.toList=A at *
  generalize shL (-p2)=B at *
  generalize quL p3.data.toList=C at *
  generalize shL (-p4)=E at *
  generalize dtL ⟨p5,p6,p7,p8,p9⟩=F at *
  generalize dtL ⟨q1,q2,q3,q4,q5⟩=G at *
  show Does _ _ [.agg #[.string p1,.int .i64 p2,.string p3,.int .i64 p4,.int .i64 p5,.int .i64 p6,.int .i64 p7,.int .i64 p8,.int .i64 p9,.int .i64 q1,.int .i64 q2,.int .i64 q3,.int .i64 q4,.int .i64 q5]] w _
  by_cases h6:p4=p2+3600
  ·have b2:(!decide (p4=p2+3600))=false:=by rw[decide_eq_true h6];rfl
   rw[if_pos h6]at hl ⊢
   simp only[List.length_append,List.length_cons,List.length_nil]at hl
   refine Zaa Tryz.func13 rfl rfl rfl rfl ?_
   repeat (first|refine Zxo ?_|(refine jg ?_;(try intro F);(refine bx ?_;intro bk);first|refine⟨_,EndsA,Zhr,?_⟩|refine fin ?_)|(refine jn ?_;(try intro F);(refine bx ?_;intro bk);first|refine⟨_,EndsA,Zhr,?_⟩|refine fin ?_))
   exact ret_2 _ _ [] (.tmp rfl) (.tmp rfl) .nil ⟨by simp,rfl⟩
  ·have b2:(!decide (p4=p2+3600))=true:=by rw[decide_eq_false h6];rfl
   rw[if_neg h6]at hl ⊢
   simp only[List.length_append,List.length_cons]at hl
   refine Zaa Tryz.func13 rfl rfl rfl rfl ?_
   repeat (first|refine Zxo ?_|(refine jg ?_;(try intro F);(refine bx ?_;intro bk);first|refine⟨_,EndsA,Zhr,?_⟩|refine fin ?_)|(refine jn ?_;(try intro F);(refine bx ?_;intro bk);first|refine⟨_,EndsA,Zhr,?_⟩|refine fin ?_))
   exact ret_2 _ _ [] (.tmp rfl) (.tmp rfl) .nil ⟨by simp,rfl⟩
end Go.Proofs.YtdlmhmmhdbbliaaGreatDoor
