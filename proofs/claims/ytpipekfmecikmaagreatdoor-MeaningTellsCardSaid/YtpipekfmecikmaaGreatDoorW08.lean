/- Parts of the proof. -/
import Derived.Test.YtpipekfmecikmaaGreatDoorW07
import Derived.Laws.Strings2
import Derived.Test.YtpipekfmecikmaaGreatDoorW06
import Derived.LoopN
import Derived.Test.YtpipekfmecikmaaGreatDoorW04
set_option maxHeartbeats 4000000
set_option linter.unusedVariables false
set_option linter.unusedSimpArgs false
namespace Go.Wk
open Go Go.RowKit
def kArr (p:Nat->Nat):List Value:=(List.range 256).map fun i => .int .u8 (p i)
theorem Zc7 (p:Nat->Nat):(kArr p).length=256:=by simp[kArr]
theorem ZwJ {p:Nat->Nat}{j:Nat}(a:j<256):(kArr p)[j]?=some (.int .u8 (p j)):=by simp[kArr,a]
theorem ZwI (p:Nat->Nat)(j v:Nat):(kArr p).set j (.int .u8 v)=kArr fun i=>if i=j then v else p i:=by
 apply List.ext_getElem
 ·simp[kArr]
 ·intro i a b
  simp only[kArr,List.getElem_set,List.getElem_map,List.getElem_range]
  by_cases h:j=i
  ·subst h;simp
  ·have:i≠j:=fun e=>h e.symm
   simp[h,this]
theorem ZdB {p q:Nat->Nat}(h:∀ i,i<256->p i=q i):kArr p=kArr q:=by
 unfold kArr
 apply List.map_congr_left
 intro i a
 rw[h i (List.mem_range.1 a)]
theorem Zp5 (p:Nat->Nat):(kArr p).all Value.oneCell'=true:=by simp[kArr,Value.oneCell']
attribute [irreducible] kArr
theorem ZtB:∀ (vs:List Value) (a cs:List Value),cs.length=vs.length->lay (a++cs) a.length vs=a++vs
 | [],a,cs,h=>by
  have:cs=[]:=List.eq_nil_of_length_eq_zero h
  rw[this];rfl
 | v::r,a,[],h=>by simp at h
 | v::r,a,c::cs,h=>by
  rw[lay,List.set_append_right _ _ (Nat.le_refl _),Nat.sub_self,List.set_cons_zero]
  have:=ZtB r (a++[v]) cs (by simpa using h)
  rw[List.append_assoc,List.length_append]at this
  simpa using this
section
variable {P:Program}{n:Nat}{wr:World}{fr:Fr}{O:List It}{ty:TypeId}{pos:String}{af:Array Edge}
theorem Zsn {t sz b:Nat}{x:Operand}{cs:List Value}{c:TypeId}{R:List It}[Ty P t sz true](e:ev fr x=some (.pointer (some ⟨b,0,none⟩)))(d:Pick (.blk b cs c) O R)(a:cs.length=sz):Pu P n wr fr O (.load t x) ty (.agg cs.toArray) :=
 Zns e d (by simp[List.take_of_length_le (Nat.le_of_eq a)]) a
theorem ZgM {t:TypeId}{x z:Operand}{s:ByteArray}{c:IntKind}{j:Int}[hS:StringT P t](f:ev fr x=some (.string s))(g:ev fr z=some (.int c j))(i:0<=j)(d:j<=s.size) :
  Pu P n wr fr O (.slice t x none (some z) none) ty (.string (s.extract 0 j.toNat)):=fun a w b _ _ _ _=>by
 have h:(Instr.slice t (.string s) none (some (.int c j)) none).run P w = .ok (.string (s.extract 0 j.toNat)) w:=by
  have e:0<=j/\j<=(s.size:Int):=⟨by omega,d⟩
  simp[Instr.slice,Instr.sliceBounds,Instr.sliceBound,asIntOf,run_underlying hS.h,e]
 simp[execOp,b.sim.ev f,b.sim.ev g,Instr.sliceAt,run_underlying hS.h,h]
theorem ZgL {t:TypeId}{x y:Operand}{s:ByteArray}{k:IntKind}{i:Int}[hS:StringT P t](f:ev fr x=some (.string s))(g:ev fr y=some (.int k i))(c:0<=i)(d:i<=s.size) :
  Pu P n wr fr O (.slice t x (some y) none none) ty (.string (s.extract i.toNat s.size)):=fun a w b _ _ _ _=>by
 have h:(Instr.slice t (.string s) (some (.int k i)) none none).run P w = .ok (.string (s.extract i.toNat s.size)) w:=by
  have e:0<=i/\i<=(s.size:Int):=⟨c,d⟩
  simp[Instr.slice,Instr.sliceBounds,Instr.sliceBound,asIntOf,run_underlying hS.h,e]
 simp[execOp,b.sim.ev f,b.sim.ev g,Instr.sliceAt,run_underlying hS.h,h]
theorem Za0 {t:TypeId}{x a:Operand}{s:ByteArray}{h:IntKind}{i:Int}{c:UInt8}[hS:StringT P t](g:ev fr x=some (.string s))(f:ev fr a=some (.int h i))(b:0<=i)(d:i<s.size)(e:s.data.toList.getD i.toNat 0=c):Pu P n wr fr O (.index t x a) ty (.int .u8 c.toNat):=by
 subst e
 exact Znt g f b d
theorem ZgH {t b j v:Nat}{c:TypeId}{x y:Operand}{p:Nat->Nat}{O':List It}{a:Option Tmp}{g:Option (Nat × Bool)}{Kp:Value->List It->Prop}[Ty P t 1 false](d:ev fr x=some (.pointer (some ((⟨b,0,none⟩:Addr).add (j*1)))))(f:ev fr y=some (.int .u8 v))
  (e:Upd O (.blk b (kArr p) c) (.blk b (kArr fun i=>if i=j then v else p i) c) O') (h:j<256) (k:Kp undef O'):Stp P n wr fr O ⟨a,.store t x y,ty,pos,af,g⟩ Kp:=by
 rw[Zb5,Nat.zero_add,Nat.mul_one]at d
 exact ZgI (sz:=1) (v := .int .u8 v) (vs:=[.int .u8 v]) (j:=j) d f e rfl rfl rfl (by rw[Nat.ble_eq,Zc7];omega) (ZwI p j v) k
theorem Zhd {t b sz:Nat}{c:TypeId}{x y:Operand}{cs vs:List Value}{O':List It}{a:Option Tmp}{g:Option (Nat × Bool)}{Kp:Value->List It->Prop}[Ty P t sz true](h:ev fr x=some (.pointer (some ⟨b,0,none⟩)))(i:ev fr y=some (.agg vs.toArray))
  (f:Upd O (.blk b cs c) (.blk b vs c) O') (e:vs.length=sz) (j:cs.length=sz) (d:vs.all Value.oneCell'=true) (k:Kp undef O'):Stp P n wr fr O ⟨a,.store t x y,ty,pos,af,g⟩ Kp :=
 ZgI (v := .agg vs.toArray) (vs:=vs) h i f rfl e d (by rw[Nat.ble_eq];omega) (ZtB vs [] cs (by omega)) k
end
theorem Zaz.cells {a b:Nat}{cs:List Value}{t:TypeId}{O R:List It}{w:World}(h:Zaz a O w)(d:Pick (.blk b cs t) O R):Zau w ⟨b,0,none⟩ cs:=fun j v c=>by
 rw[Zb5,ZcD (h.sat _ (d.perm.mem_iff.2 List.mem_cons_self)),Nat.zero_add,c]
theorem Zv9:∀ a∈[0,1,2,4,8,16],∀ s:Fin 256,IntKind.u8.wrap ((BitVec.ofInt IntKind.u8.bits ((a:Nat):Int) &&& BitVec.ofInt IntKind.u8.bits ((s.val:Nat):Int)).toNat:Nat)=((a &&& s.val:Nat):Int):=by decide +kernel
theorem Znd (c:Nat):ZbO c∈[0,1,2,4,8,16]:=by
 unfold ZbO
 repeat' split
 all_goals decide
end Go.Wk
namespace Go.Proofs.YtpipekfmecikmaaGreatDoor
open Go Go.RowKit Go.Wk
attribute [local irreducible] W RL Does Zat Zaj retQ Calls Pu Stp RD Qy Ay Zak
instance zeroKinds:ZeroT Tryz.prog 279 (kArr fun _=>0):=⟨by kernel_rfl⟩
def k1 (k i:Nat):Nat:=if (65<=i/\i<65+k)\/(97<=i/\i<97+k) then 1 else 0
def k2 (k i:Nat):Nat:=if 48<=i/\i<48+k then 2 else k1 26 i
theorem Zjl {G:Prop}(h:G:=by(apply Zbr;rfl;rfl;omega;omega)):G:=h
theorem Zow (w:World):Does Tryz.prog 264 [] w (fun v O=>v = .agg (kArr ZbO).toArray/\O=[]):=by
 refine Zaa Tryz.func264 rfl rfl rfl rfl ?_
 repeat (first|(refine js ?_;(refine bx ?_;intro c))|refine ZlS ?_)
 rename_i d
 have m:kArr (k1 0)=kArr fun _=>0:=ZdB fun i _=>if_neg (by omega)
 rw[<- m]
 refine Zb6 (fun fr' O'=>Go.Wk.Sub [(0,.pointer (some ⟨d,0,none⟩)),(1,.pointer (some ⟨c,0,none⟩))] fr'/\SubO [.blk c (kArr (k1 26)) 279,.blk d (kArr (k1 0)) 279] O') ?_ ?_
 ·apply W_block
  refine Zai [(0,.pointer (some ⟨d,0,none⟩)),(1,.pointer (some ⟨c,0,none⟩))] [.blk d (kArr (k1 0)) 279] (fun k:Nat=>[(4,.int .i64 k)]) (fun k=>[.blk c (kArr (k1 k)) 279]) (fun k=>k<=26) (fun k=>26 - k) 0 SFA SOA (Nat.zero_le _) ?_
  intro k r
  repeat (first|(apply RL_pu;rfl;exact Zjl)|(refine js ?_;(refine bx ?_;intro c))|refine walk1 ?_)
  refine Zaf rfl (fun h=>?_) (fun h=>?_)
  ·have g:=of_decide_eq_true h
   repeat (first|(apply RL_pu;rfl;exact Zjl)|(refine js ?_;(first|(apply ZgH;rfl;rfl;(focus repeat' constructor);omega)|(refine bx ?_;intro c)))|refine walk1 ?_)
   rw[ZdB (p:=fun i=>if i=(97+(k:Int)).toNat then 1 else if i=(65+(k:Int)).toNat then 1 else k1 k i) (q:=k1 (k+1)) (fun i j=>by
    unfold k1
    repeat' split
    all_goals omega)]
   exact⟨k+1,OA,OA,SFA,SOA⟩
  ·have g:=of_decide_eq_false h
   obtain rfl:k=26:=by omega
   repeat (first|(refine js ?_;(refine bx ?_;intro c))|refine walk ?_)
   exact⟨rfl,SFA,SOA⟩
 rintro fr' O' ⟨f,e⟩
 apply thenQ_n
 refine ZcV f e ?_
 clear f e fr' O'
 rw[show kArr (k1 26)=kArr (k2 0) from ZdB fun i _=>(if_neg (by omega)).symm]
 repeat (first|(refine js ?_;(refine bx ?_;intro c))|refine ZlS ?_)
 refine Zb6 (fun fr' O'=>Go.Wk.Sub [(0,.pointer (some ⟨d,0,none⟩)),(1,.pointer (some ⟨c,0,none⟩))] fr'/\SubO [.blk c (kArr (k2 10)) 279,.blk d (kArr (k1 0)) 279] O') ?_ ?_
 ·apply W_block
  refine Zai [(0,.pointer (some ⟨d,0,none⟩)),(1,.pointer (some ⟨c,0,none⟩))] [.blk d (kArr (k1 0)) 279] (fun k:Nat=>[(14,.int .i64 k)]) (fun k=>[.blk c (kArr (k2 k)) 279]) (fun k=>k<=10) (fun k=>10 - k) 0 SFA SOA (Nat.zero_le _) ?_
  intro k r
  repeat (first|(apply RL_pu;rfl;exact Zjl)|(refine js ?_;(refine bx ?_;intro c))|refine walk1 ?_)
  refine Zaf rfl (fun h=>?_) (fun h=>?_)
  ·have g:=of_decide_eq_true h
   repeat (first|(apply RL_pu;rfl;exact Zjl)|(refine js ?_;(first|(apply ZgH;rfl;rfl;(focus repeat' constructor);omega)|(refine bx ?_;intro c)))|refine walk1 ?_)
   rw[ZdB (p:=fun i=>if i=(48+(k:Int)).toNat then 2 else k2 k i) (q:=k2 (k+1)) (fun i j=>by
    unfold k2
    repeat' split
    all_goals omega)]
   exact⟨k+1,OA,OA,SFA,SOA⟩
  ·have g:=of_decide_eq_false h
   obtain rfl:k=10:=by omega
   repeat (first|(refine js ?_;(refine bx ?_;intro c))|refine walk ?_)
   exact⟨rfl,SFA,SOA⟩
 rintro fr' O' ⟨f,e⟩
 apply thenQ_n
 refine ZcV f e ?_
 clear f e fr' O'
 repeat (first|(apply RL_pu;rfl;(first|exact Zjl|(apply Zsn;rfl;(focus repeat' constructor);exact Zc7 _)))|(refine js ?_;(first|(apply ZgH;rfl;rfl;(focus repeat' constructor);omega)|(apply Zhd;rfl;rfl;(focus repeat' constructor);exact Zc7 _;exact Zc7 _;exact Zp5 _)|(refine bx ?_;intro c)))|refine walk1 ?_)
 refine ret_1 _ [] (.cellB rfl (by repeat' constructor) (List.take_of_length_le (Nat.le_of_eq (Zc7 _))) (Zc7 _)) .nil ⟨?_,rfl⟩
 rw[ZdB (q:=ZbO) (fun i j=>by
    unfold ZbO k2 k1
    repeat' split
    all_goals omega)]
theorem ZkJ {G G':Prop}(k:G')(h:Hold G'->G:=by intro k9;(first|refine walk ?_|(refine jn ?_;(try intro F);(apply Zad;exact PuA);refine fin ?_));exact k9.out):G:=h ⟨k⟩
theorem ZvB {G:Prop}(h:G:=by(apply Pu_loadO1;rfl;first|exact h1 0 _ rfl|exact h2 0 _ rfl|exact h4 0 _ rfl)):G:=h
theorem Zpm {G:Prop}(h:G:=by(first|(apply Za0 (c:=c);rfl;rfl;omega;omega;exact hcd)|(apply Zbr;rfl;rfl;omega;omega)|(apply Pu_loadO1';rfl;exact h3;exact hcell)|(apply Pu_loadO1;rfl;exact h4 0 _ rfl)|(apply ZAJ;rfl;rfl))):G:=h
theorem ZAB {G:Prop}(h:G:=by first|(apply Qy_y;rfl;exact Zpm)|exact QyA):G:=h
theorem Zwy (s:ByteArray)(a b m H I x y:Nat)(T:(s.size:Int)<=9223372036854775807)(N:m<256)(w:World)(h1:Zau w ⟨H,0,none⟩ [.int .i64 a])(h2:Zau w ⟨I,0,none⟩ [.int .i64 b])(h3:Zau w ⟨x,0,none⟩ (kArr ZbO))(h4:Zau w ⟨y,0,none⟩ [.int .u8 m]) :
  Does Tryz.prog 265 [.string s,.pointer (some ⟨H,0,none⟩),.pointer (some ⟨I,0,none⟩),.pointer (some ⟨x,0,none⟩),.pointer (some ⟨y,0,none⟩)] w (fun v O=>v = .bool (ZbV a b m s.data.toList)/\O=[]):=by
 have e:s.data.toList.length=s.size:=rfl
 have J:∀ j,s.data.toList.getD j 0=(s.data.toList[j]?).getD 0:=fun j=>by rw[List.getD_eq_getElem?_getD]
 refine Zaa Tryz.func265 rfl rfl rfl rfl ?_
 rw[ZbV,e]
 obtain⟨l,u⟩:∃ l,l=s.data.toList:=⟨_,rfl⟩
 rw[<- u]at e J ⊢
 repeat' (first|(apply RL_pu;rfl;exact ZvB)|(apply RD_Q;rfl;rfl;decide +kernel;rfl;rfl;exact QyName2)|refine walk1 ?_|(refine RD_Lw ?_;intro F;(apply Zad;first|exact ZvB|exact PuA);refine⟨_,EndsA,QFName2,?_⟩)|refine und ?_|(refine Zam rfl rfl rfl (fun f=>?_) (fun f=>?_))|(refine Zas rfl rfl rfl (fun f=>?_) (fun f=>?_))|(refine Zaf rfl (fun f=>?_) (fun f=>?_)))
 ·have h:=of_decide_eq_true f
  exact ret_1 _ [] (.tmp rfl) .nil ⟨by rw[decide_eq_false (show ¬ a<=s.size by omega)];rfl,rfl⟩
 ·have h:=of_decide_eq_true f
  exact ret_1 _ [] (.tmp rfl) .nil ⟨by rw[decide_eq_false (show ¬ s.size<=b by omega),Bool.and_false];rfl,rfl⟩
 rename_i z
 have Q:=of_decide_eq_false z
 have R:=of_decide_eq_false f
 rw[decide_eq_true (show a<=s.size by omega),decide_eq_true (show s.size<=b by omega),Bool.true_and,Bool.true_and]
 refine Zai [(0,.string s),(3,.pointer (some ⟨x,0,none⟩)),(4,.pointer (some ⟨y,0,none⟩)),(19,.int .i64 s.size)] [] (fun k:Nat=>[(20,.int .i64 k)]) (fun _=>[]) (fun k=>k<=s.size/\ZbE m (l.take k)=true) (fun k=>s.size - k) 0 SFA .nil ⟨Nat.zero_le _,rfl⟩ ?_
 rintro k ⟨S,hok⟩
 repeat refine ZkJ ?_
 refine Zaf rfl (fun h=>?_) (fun h=>?_)
 ·have M:=of_decide_eq_true h
  have g:k<l.length:=by omega
  have L:l.getD k 0=l[k]:=by rw[J,List.getElem?_eq_getElem g];rfl
  have t:=UInt8.toNat_lt (l.getD k 0)
  have hcell:=ZwJ (p:=ZbO) t
  have D:=Zv9 (ZbO (l.getD k 0).toNat) (Znd _) ⟨m,N⟩
  have d:ZbE m (l.take (k+1))=(ZbE m (l.take k)&&!decide (ZbO (l.getD k 0).toNat &&& m=0)):=by
   rw[ZbE,List.take_succ_eq_append_getElem g,List.all_append,L]
   simp[ZbE]
  have r:ZbE m l=(ZbE m (l.take (k+1))&&ZbE m (l.drop (k+1))):=by
   rw[ZbE,ZbE,ZbE,<- List.all_append,List.take_append_drop]
  rw[hok,Bool.true_and]at d
  obtain⟨c,hcd⟩:∃ c,s.data.toList.getD k 0=c:=⟨_,rfl⟩
  rw[u,hcd]at t hcell D
  rw[u]at d
  rw[hcd,<- u]at d
  rw[<- Nat.mul_one c.toNat]at hcell
  rw[show ZbO (c.toNat*1)=ZbO c.toNat by rw[Nat.mul_one]]at hcell
  simp only at D
  repeat (first|(apply RL_pu;rfl;exact Zpm)|(apply RD_Q;rfl;rfl;decide +kernel;rfl;rfl;exact ZAB)|refine walk1 ?_|(refine jn ?_;(try intro F);(apply Zad;first|exact Zpm|exact PuA);first|refine⟨_,EndsA,QFName3,?_⟩|refine fin ?_))
  rw[D]
  refine Zaf rfl (fun E=>?_) (fun E=>?_)
  ·have K:=of_decide_eq_true E
   have q:ZbO c.toNat &&& m=0:=by omega
   rw[r,d,decide_eq_true q]
   repeat refine ZkJ ?_
   exact rtA
  ·have K:=of_decide_eq_false E
   have q:¬ ZbO c.toNat &&& m=0:=by omega
   rw[decide_eq_false q]at d
   repeat refine ZkJ ?_
   exact⟨k+1,OA,⟨OA,d⟩,SFA,.nil⟩
 ·have h1:=of_decide_eq_false h
  obtain rfl:k=s.size:=by omega
  rw[<- e,List.take_length]at hok
  repeat refine ZkJ ?_
  exact ret_1 _ [] (.tmp rfl) .nil ⟨by rw[hok],rfl⟩
def ofV (b1 b2 b3 b4:Nat):Value := .func (.func 265) #[] #[.pointer (some ⟨b1,0,none⟩),.pointer (some ⟨b2,0,none⟩),.pointer (some ⟨b3,0,none⟩),.pointer (some ⟨b4,0,none⟩)]
def ofO (a b m b1 b2 b3 b4:Nat):List It:=[.blk b1 [.int .i64 a] 3,.blk b2 [.int .i64 b] 3,.blk b3 (kArr ZbO) 279,.blk b4 [.int .u8 m] 5]
theorem ZfK (a b m:Nat)(w:World):Does Tryz.prog 215 [.int .i64 a,.int .i64 b,.int .u8 m] w (fun v O=>∃ c d e f,v=ofV c d e f/\O=ofO a b m c d e f):=by
 refine Zaa Tryz.func215 rfl rfl rfl rfl ?_
 repeat (first|(refine js ?_;(first|(refine Zab (fun w' _=>Zow w') ?_)|(apply Zhd;rfl;rfl;(focus repeat' constructor);exact Zc7 _;exact Zc7 _;exact Zp5 _)|(refine bx ?_;intro g)))|refine walk ?_)
 exact ret_1 _ _ (.tmp rfl) SOA ⟨_,_,_,_,rfl,rfl⟩
theorem ZkW {c:Nat}{s:ByteArray}{a b m d e f g:Nat}{O:List It}{w:World}(l:(s.size:Int)<=9223372036854775807)(k:m<256)(i:Zaz c O w)(j:SubO (ofO a b m d e f g) O) :
  Does Tryz.prog 265 ([]++[.string s]++[.pointer (some ⟨d,0,none⟩),.pointer (some ⟨e,0,none⟩),.pointer (some ⟨f,0,none⟩),.pointer (some ⟨g,0,none⟩)]) w (fun v O=>v = .bool (ZbV a b m s.data.toList)/\O=[]):=by
 have h:=i.sub j
 unfold ofO at h
 exact Zwy s a b m d e f g l k w (h.cells (by repeat' constructor)) (h.cells (by repeat' constructor)) (h.cells (by repeat' constructor)) (h.cells (by repeat' constructor))
theorem ZoB (s:ByteArray)(j:(s.size:Int)<=9223372036854775807)(w:World):Does Tryz.prog 399 [.string s] w (fun v O=>v = .bool (Zet s)/\O=[]):=by
 refine Zaa Tryz.func399 rfl rfl rfl rfl ?_
 repeat (first|(refine js ?_;(first|(apply Zae (h:=fun w' _ _=>ZfK 1 4 1 w');rfl;rintro v O' ⟨c,d,e,g,rfl,rfl⟩)|(apply Zar (f:=265) (us:=[]) (vs:=[.string s]) (cs:=[.pointer (some ⟨c,0,none⟩),.pointer (some ⟨d,0,none⟩),.pointer (some ⟨e,0,none⟩),.pointer (some ⟨g,0,none⟩)]) (h:=fun w' _ i=>ZkW (a:=1) (b:=4) (m:=1) j (by decide) i (by exact .refl _));rfl;rfl;rintro v O' ⟨rfl,rfl⟩)))|refine walk ?_)
 exact rtA
theorem Zf5 (s:ByteArray)(j:(s.size:Int)<=9223372036854775807)(w:World):Does Tryz.prog 150 [.string s] w (fun v O=>v = .bool (Zhn s)/\O=[]):=by
 refine Zaa Tryz.func150 rfl rfl rfl rfl ?_
 repeat (first|(refine js ?_;(first|(apply Zae (h:=fun w' _ _=>ZfK 3 6 1 w');rfl;rintro v O' ⟨c,d,e,g,rfl,rfl⟩)|(apply Zar (f:=265) (us:=[]) (vs:=[.string s]) (cs:=[.pointer (some ⟨c,0,none⟩),.pointer (some ⟨d,0,none⟩),.pointer (some ⟨e,0,none⟩),.pointer (some ⟨g,0,none⟩)]) (h:=fun w' _ i=>ZkW (a:=3) (b:=6) (m:=1) j (by decide) i (by exact .refl _));rfl;rfl;rintro v O' ⟨rfl,rfl⟩)))|refine walk ?_)
 exact rtA
end Go.Proofs.YtpipekfmecikmaaGreatDoor
namespace Go.Wk
open Go Go.RowKit
theorem Zgr {a b m:Nat}{s:ByteArray}(h:ZbV a b m s.data.toList=true):(a:Int)<=s.size/\(s.size:Int)<=b:=by
 simp only[ZbV,Bool.and_eq_true,decide_eq_true_eq]at h
 have:s.data.toList.length=s.size:=rfl
 omega
theorem ext1 (s:ByteArray):(s.extract 0 1).data.toList=s.data.toList.take 1:=by
 rw[ByteArray.data_extract];simp
end Go.Wk
namespace Go.Proofs.YtpipekfmecikmaaGreatDoor
open Go Go.RowKit Go.Wk
attribute [local irreducible] W RL Does Zat Zaj retQ Calls Pu Stp RD Qy Ay Zak ZbV
theorem Zp0 {c:Nat}{s:ByteArray}{a b m d e f g:Nat}{O:List It}{w:World}(o:(s.size:Int)<=9223372036854775807)(n:m<256)(k:Zaz c O w)(l:SubO (ofO a b m d e f g) O) :
  Does Tryz.prog 265 ([]++[.string s]++[.pointer (some ⟨d,0,none⟩),.pointer (some ⟨e,0,none⟩),.pointer (some ⟨f,0,none⟩),.pointer (some ⟨g,0,none⟩)]) w (fun v O=>∃ x,ZbV a b m s.data.toList=x/\v = .bool x/\O=[]) :=
 (ZkW o n k l).monoO fun v O ⟨i,j⟩=>⟨O,⟨_,rfl,i,j⟩,fun _ _ h=>h⟩
theorem ZlC {G:Prop}(h:G:=by(apply ZgM;rfl;rfl;decide;exact hsz)):G:=h
theorem Zqv {G:Prop}(h:G:=by first|(apply Qy_y;rfl;exact ZlC)|exact QyA):G:=h
theorem Zxe {G:Prop}(h:G:=by repeat (first|exact QF.nil|(apply QF.mk;rfl;rfl;decide +kernel;exact Zqv))):G:=h
theorem Zwj (s:ByteArray)(x:(s.size:Int)<=9223372036854775807)(w:World):Does Tryz.prog 175 [.string s] w (fun v O=>v = .bool (setB s)/\O=[]):=by
 have t:((s.extract 0 1).size:Int)<=9223372036854775807:=by rw[ByteArray.size_extract];omega
 refine Zaa Tryz.func175 rfl rfl rfl rfl ?_
 repeat (first|refine walk ?_|(refine jn ?_;(try intro F);(first|(apply Zae (h:=fun w' _ _=>ZfK 1 30 15 w');rfl;rintro v O' ⟨d,g,j,p,rfl,rfl⟩)|(apply Zar (f:=265) (us:=[]) (vs:=[.string (s)]) (cs:=[.pointer (some ⟨d,0,none⟩),.pointer (some ⟨g,0,none⟩),.pointer (some ⟨j,0,none⟩),.pointer (some ⟨p,0,none⟩)]) (h:=fun w' _ q=>Zp0 (a:=1) (b:=30) (m:=15) x (by decide) q SOA);rfl;rfl;rintro v O' ⟨y,c,rfl,rfl⟩)|(apply Zad;exact PuA));refine fin ?_))
 refine Zas rfl rfl rfl (fun r=>?_) (fun r=>?_)
 ·subst r
  have hsz:=(Zgr c).1
  have e:setB s=ZbV 1 1 1 (s.extract 0 1).data.toList:=by rw[setB,c,ext1];rfl
  rw[e]
  repeat (first|(apply RL_pu;rfl;exact ZlC)|(apply RD_Q;rfl;rfl;decide +kernel;rfl;rfl;exact Zqv)|refine walk1 ?_|(refine jn ?_;(try intro F);(first|(apply Zae (h:=fun w' _ _=>ZfK 1 1 1 w');rfl;rintro v O' ⟨d,g,j,p,rfl,rfl⟩)|(apply Zar (f:=265) (us:=[]) (vs:=[.string (s.extract 0 1)]) (cs:=[.pointer (some ⟨d,0,none⟩),.pointer (some ⟨g,0,none⟩),.pointer (some ⟨j,0,none⟩),.pointer (some ⟨p,0,none⟩)]) (h:=fun w' _ q=>Zp0 (a:=1) (b:=1) (m:=1) t (by decide) q SOA);rfl;rfl;rintro v O' ⟨z,u,rfl,rfl⟩)|(apply Zad;first|exact ZlC|exact PuA));first|refine⟨_,EndsA,Zxe,?_⟩|refine fin ?_))
  exact ret_1 _ [] (.tmp rfl) .nil ⟨by rw[u],rfl⟩
 ·subst r
  have e:setB s=false:=by rw[setB,c];rfl
  rw[e]
  repeat (first|refine walk ?_|(refine jn ?_;(try intro F);(apply Zad;exact PuA);refine fin ?_))
  exact rtA
end Go.Proofs.YtpipekfmecikmaaGreatDoor
namespace Go.Wk
open Go Go.RowKit
def ZcT (r:DRule)(least:Int):Nat->Bool
 | 0=>Zbm r.from_&&(Zbm r.to||decide (r.to=1048576))
 | 1=>decide (r.from_<=r.to)
 | 2=>Zb4 r.from_ r.to r.month r.day
 | 3=>Zd4 r.at_ least
 | 4=>decide (-10800<=r.save)&&decide (r.save<=10800)
 | _=>decide (r.letter=ByteArray.empty)||Zet r.letter
theorem ZhB {P:Program}{n:Nat}{wr:World}{fr:Fr}{O:List It}{ty t t':TypeId}{x y:Operand}{i j m:Int}(b:ev fr x=some (.int .i64 i))(c:ev fr y=some (.int .i64 j))(a:IntKind.i64.wrap (i+j)=m):Pu P n wr fr O (.binOp .add t x y t') ty (.int .i64 m):=a▸ZlA b c
end Go.Wk
namespace Go.Proofs.YtpipekfmecikmaaGreatDoor
open Go Go.RowKit Go.Wk
attribute [local irreducible] W RL Does Zat Zaj retQ Calls Pu Stp RD Qy Ay Zak ZbV
theorem Zid (y:Int)(w:World):Does Tryz.prog 391 [.int .i64 y] w (fun v O=>v = .bool (Zbm y)/\O=[]):=by
 refine Zaa Tryz.func391 rfl rfl rfl rfl ?_
 repeat' (first|refine walk ?_|refine und ?_|(refine Zam rfl rfl rfl (fun a=>?_) (fun a=>?_))|(refine Zas rfl rfl rfl (fun a=>?_) (fun a=>?_))|(refine Zaf rfl (fun a=>?_) (fun a=>?_)))
 all_goals first|(refine ret_1 _ [] (.tmp rfl) .nil ⟨?_,rfl⟩;first|rfl|(simp only[*,Bool.true_and,Bool.false_and,Bool.true_or,Bool.false_or,Bool.not_true,Bool.not_false];done)|(simp_all [Zbm];done)|(simp_all [Zbm];omega)|(simp_all [Zbm];rw[Bool.eq_iff_iff];simp;omega))|(exfalso;simp_all [Zbm];done)|(exfalso;simp_all [Zbm];omega)|(exfalso;omega)
theorem Zrb (c:DClock)(least:Int)(r : -9223372036854775808<=least/\least<=0)(w:World):Does Tryz.prog 396 [.agg (DClock.enc c).toArray,.int .i64 least] w (fun v O=>v = .bool (Zd4 c least)/\O=[]):=by
 by_cases a:ZaI c=true
 ·have q : -604799<=c.sec/\c.sec<=604799:=by
   simp only[ZaI,Bool.and_eq_true,decide_eq_true_eq]at a
   omega
  obtain⟨m,g⟩:∃ m,IntKind.i64.wrap (c.sec+least)=m:=⟨_,rfl⟩
  have f:(decide (-86400<=m)&&decide (m<=172800))=(decide (-86400<=c.sec+least)&&decide (c.sec+least<=172800)):=by
   have p:IntKind.i64.wrap (c.sec+least)=if c.sec+least < -9223372036854775808 then c.sec+least+18446744073709551616 else c.sec+least:=by
    rw[IntKind.wrap_i64]
    repeat' split
    all_goals omega
   rw[p]at g
   rw[Bool.eq_iff_iff]
   simp only[Bool.and_eq_true,decide_eq_true_eq]
   split at g <;> omega
  have i:Zd4 c least=(ZaI c&&(if c.base=1 then (decide (-86400<=m)&&decide (m<=172800)) else (decide (-86400<=c.sec)&&decide (c.sec<=172800)))):=by
   unfold Zd4
   dsimp only
   congr 1
   by_cases e:c.base=1
   ·rw[if_pos e,if_pos e,f]
   ·rw[if_neg e,if_neg e]
  rw[i]
  clear i f
  have d:=ZdX c
  rw[a]at d ⊢
  obtain⟨s,b⟩:=c
  simp only at *
  show Does _ _ [.agg #[.int .i64 s,.int .i64 b],.int .i64 least] w _
  refine Zaa Tryz.func396 rfl rfl rfl rfl ?_
  repeat' (first|(apply RL_pu;rfl;(apply ZhB;rfl;rfl;exact g))|(refine js ?_;(first|(refine Zab (fun w' _=>d w') ?_)|(refine bx ?_;intro j)))|refine walk1 ?_|refine und ?_|(refine Zam rfl rfl rfl (fun a=>?_) (fun a=>?_))|(refine Zas rfl rfl rfl (fun a=>?_) (fun a=>?_))|(refine Zaf rfl (fun a=>?_) (fun a=>?_)))
  all_goals exact clo1
 ·unfold Zd4
  have d:=ZdX c
  rw[Bool.not_eq_true]at a
  rw[a]at d ⊢
  obtain⟨s,b⟩:=c
  simp only at *
  show Does _ _ [.agg #[.int .i64 s,.int .i64 b],.int .i64 least] w _
  refine Zaa Tryz.func396 rfl rfl rfl rfl ?_
  repeat' (first|(refine js ?_;(first|(refine Zab (fun w' _=>d w') ?_)|(refine bx ?_;intro j)))|refine walk ?_|refine und ?_|(refine Zam rfl rfl rfl (fun a=>?_) (fun a=>?_))|(refine Zas rfl rfl rfl (fun a=>?_) (fun a=>?_))|(refine Zaf rfl (fun a=>?_) (fun a=>?_)))
  all_goals exact clo1
theorem Zsd (r:DRule)(least:Int)(w:World):Does Tryz.prog 390 [.agg (DRule.enc r).toArray,.int .i64 least] w (fun v O=>v = .bool (ZcT r least 0)/\O=[]):=by
 unfold ZcT
 have e:=Zid r.from_
 have f:=Zid r.to
 generalize Zbm r.from_=x1 at *
 generalize Zbm r.to=x2 at *
 obtain⟨i,fr,to,g,⟨c,d,dd⟩,⟨cs,b⟩,sv,le⟩:=r
 simp only at *
 show Does _ _ [.agg #[.string i,.int .i64 fr,.int .i64 to,.int .i64 g,.int .i64 c,.int .i64 d,.int .i64 dd,.int .i64 cs,.int .i64 b,.int .i64 sv,.string le],.int .i64 least] w _
 refine Zaa Tryz.func390 rfl rfl rfl rfl ?_
 repeat' (first|(refine js ?_;(first|(refine Zab (fun w' _=>e w') ?_)|(refine Zab (fun w' _=>f w') ?_)|(refine bx ?_;intro j)))|refine walk ?_|refine und ?_|(refine Zam rfl rfl rfl (fun a=>?_) (fun a=>?_))|(refine Zas rfl rfl rfl (fun a=>?_) (fun a=>?_))|(refine Zaf rfl (fun a=>?_) (fun a=>?_)))
 all_goals exact clo1
theorem Zsc (r:DRule)(least:Int)(w:World):Does Tryz.prog 392 [.agg (DRule.enc r).toArray,.int .i64 least] w (fun v O=>v = .bool (ZcT r least 1)/\O=[]):=by
 unfold ZcT
 obtain⟨f,fr,to,e,⟨b,c,dd⟩,⟨cs,a⟩,sv,le⟩:=r
 simp only at *
 show Does _ _ [.agg #[.string f,.int .i64 fr,.int .i64 to,.int .i64 e,.int .i64 b,.int .i64 c,.int .i64 dd,.int .i64 cs,.int .i64 a,.int .i64 sv,.string le],.int .i64 least] w _
 refine Zaa Tryz.func392 rfl rfl rfl rfl ?_
 repeat' (first|(refine js ?_;(refine bx ?_;intro g))|refine walk ?_|(refine Zaf rfl (fun d=>?_) (fun d=>?_)))
 all_goals exact clo1
theorem Zsb (r:DRule)(least:Int)(w:World)(e:Glob w):Does Tryz.prog 393 [.agg (DRule.enc r).toArray,.int .i64 least] w (fun v O=>v = .bool (ZcT r least 2)/\O=[]):=by
 unfold ZcT
 have d:=fun w' g=>Zo5 r.from_ r.to r.month r.day w' (Glob.up (w':=w') e g)
 generalize Zb4 r.from_ r.to r.month r.day=x1 at *
 obtain⟨j,fr,to,i,⟨b,c,dd⟩,⟨cs,a⟩,sv,le⟩:=r
 simp only at *
 show Does _ _ [.agg #[.string j,.int .i64 fr,.int .i64 to,.int .i64 i,.int .i64 b,.int .i64 c,.int .i64 dd,.int .i64 cs,.int .i64 a,.int .i64 sv,.string le],.int .i64 least] w _
 refine Zaa Tryz.func393 rfl rfl rfl rfl ?_
 repeat' (first|(refine js ?_;(first|(refine Zab d ?_)|(refine bx ?_;intro m)))|refine walk ?_|(refine Zaf rfl (fun f=>?_) (fun f=>?_)))
 all_goals exact clo1
theorem Zsa (r:DRule)(least:Int)(f : -9223372036854775808<=least/\least<=0)(w:World):Does Tryz.prog 395 [.agg (DRule.enc r).toArray,.int .i64 least] w (fun v O=>v = .bool (ZcT r least 3)/\O=[]):=by
 unfold ZcT
 have d:=Zrb r.at_ least f
 generalize Zd4 r.at_ least=x1 at *
 obtain⟨i,fr,to,g,⟨b,c,dd⟩,⟨cs,a⟩,sv,le⟩:=r
 simp only at *
 show Does _ _ [.agg #[.string i,.int .i64 fr,.int .i64 to,.int .i64 g,.int .i64 b,.int .i64 c,.int .i64 dd,.int .i64 cs,.int .i64 a,.int .i64 sv,.string le],.int .i64 least] w _
 refine Zaa Tryz.func395 rfl rfl rfl rfl ?_
 repeat' (first|(refine js ?_;(first|(refine Zab (fun w' m=>d w') ?_)|(refine bx ?_;intro j)))|refine walk ?_|(refine Zaf rfl (fun e=>?_) (fun e=>?_)))
 all_goals exact clo1
theorem Zr9 (r:DRule)(least:Int)(w:World):Does Tryz.prog 397 [.agg (DRule.enc r).toArray,.int .i64 least] w (fun v O=>v = .bool (ZcT r least 4)/\O=[]):=by
 unfold ZcT
 obtain⟨f,fr,to,e,⟨c,d,dd⟩,⟨cs,b⟩,sv,le⟩:=r
 simp only at *
 show Does _ _ [.agg #[.string f,.int .i64 fr,.int .i64 to,.int .i64 e,.int .i64 c,.int .i64 d,.int .i64 dd,.int .i64 cs,.int .i64 b,.int .i64 sv,.string le],.int .i64 least] w _
 refine Zaa Tryz.func397 rfl rfl rfl rfl ?_
 repeat' (first|(refine js ?_;(refine bx ?_;intro g))|refine walk ?_|refine und ?_|(refine Zam rfl rfl rfl (fun a=>?_) (fun a=>?_))|(refine Zas rfl rfl rfl (fun a=>?_) (fun a=>?_))|(refine Zaf rfl (fun a=>?_) (fun a=>?_)))
 all_goals exact clo1
theorem Zr8 (r:DRule)(least:Int)(f:(r.letter.size:Int)<=9223372036854775807)(w:World):Does Tryz.prog 398 [.agg (DRule.enc r).toArray,.int .i64 least] w (fun v O=>v = .bool (ZcT r least 5)/\O=[]):=by
 unfold ZcT
 rw[show ByteArray.empty=⟨#[]⟩ from rfl]
 have e:=ZoB r.letter f
 generalize Zet r.letter=x1 at *
 obtain⟨i,fr,to,g,⟨c,d,dd⟩,⟨cs,b⟩,sv,le⟩:=r
 simp only at *
 show Does _ _ [.agg #[.string i,.int .i64 fr,.int .i64 to,.int .i64 g,.int .i64 c,.int .i64 d,.int .i64 dd,.int .i64 cs,.int .i64 b,.int .i64 sv,.string le],.int .i64 least] w _
 refine Zaa Tryz.func398 rfl rfl rfl rfl ?_
 repeat' (first|(refine js ?_;(first|(refine Zab (fun w' m=>e w') ?_)|(refine bx ?_;intro j)))|refine walk ?_|refine und ?_|(refine Zam rfl rfl rfl (fun a=>?_) (fun a=>?_))|(refine Zas rfl rfl rfl (fun a=>?_) (fun a=>?_))|(refine Zaf rfl (fun a=>?_) (fun a=>?_)))
 all_goals exact clo1
theorem ZjP (r:DRule)(w:World):Does Tryz.prog 273 [.agg (DRule.enc r).toArray] w (fun v O=>v = .bool (Zg0 r)/\O=[]):=by
 unfold Zg0
 obtain⟨f,fr,to,e,⟨c,d,dd⟩,⟨cs,b⟩,sv,le⟩:=r
 simp only at *
 show Does _ _ [.agg #[.string f,.int .i64 fr,.int .i64 to,.int .i64 e,.int .i64 c,.int .i64 d,.int .i64 dd,.int .i64 cs,.int .i64 b,.int .i64 sv,.string le]] w _
 refine Zaa Tryz.func273 rfl rfl rfl rfl ?_
 repeat' (first|(apply RL_pu;rfl;(apply Pu_rem;rfl;rfl;decide))|(refine js ?_;(refine bx ?_;intro g))|refine walk1 ?_|refine und ?_|(refine Zam rfl rfl rfl (fun a=>?_) (fun a=>?_))|(refine Zas rfl rfl rfl (fun a=>?_) (fun a=>?_))|(refine Zaf rfl (fun a=>?_) (fun a=>?_)))
 all_goals exact clo1
theorem ZcI (A:Option Addr)(c:Nat)(l:List DRule)(w:World)(f:RdSl w A c DRule.enc 11 l):Does Tryz.prog 121 [.slice A l.length c] w (fun v O=>v = .int .i64 (Zag l)/\O=[]):=by
 have q:=f.le
 have i:=f.cap
 unfold maxLen at i
 generalize hres:Zag l=res
 unfold Zag at hres
 refine Zaa Tryz.func121 rfl rfl rfl rfl ?_
 repeat (first|(refine js ?_;(refine bx ?_;intro e))|refine walk ?_)
 refine Zai [(6,_),(7,_)] [] (fun g:Nat × Int=>[(3,.int .i64 g.2),(8,.int .i64 g.1)]) (fun _=>[]) (fun g=>g.1<=l.length/\(l.drop g.1).foldl (fun m r=>min m r.save) g.2=res) (fun g=>l.length - g.1) (0,0) SFA SOA ⟨Nat.zero_le _,hres⟩ ?_
 rintro⟨k,m⟩ ⟨hk,hi⟩
 dsimp only at hk hi ⊢
 repeat (first|(refine js ?_;(refine bx ?_;intro e))|refine walk ?_)
 refine Zaf rfl (fun h=>?_) (fun h=>?_)
 ·have d:k<l.length:=by simpa using h
  obtain⟨hna,hca⟩:=f.rd k _ (List.getElem?_eq_getElem d)
  rw[Zah d]at hi
  generalize l[k]=r at *
  obtain⟨y,fr,to,x,⟨t,u,dd⟩,⟨cs,s⟩,sv,le⟩:=r
  simp only[DRule.enc,List.foldl_cons]at hca hi
  repeat (first|(apply RL_pu;rfl;(first|exact PuI|(apply ZgO;rfl;rfl)))|(refine js ?_;(refine bx ?_;intro e))|refine walk1 ?_)
  rw[show(if sv<m then sv else m)=min m sv by split <;> omega]
  exact⟨(k+1,min m sv),OA,⟨OA,hi⟩,SFA,.nil⟩
 ·have j:k=l.length:=by
   have:=of_decide_eq_false h
   omega
  subst j
  rw[List.drop_length]at hi
  repeat (first|(refine js ?_;(refine bx ?_;intro e))|refine walk ?_)
  exact ret_1 _ [] (.tmp rfl) .nil ⟨by rw[<- hi];rfl,rfl⟩
theorem ZjV (A:Option Addr)(c:Nat)(l:List DRule)(w:World)(q:RdSl w A c DRule.enc 11 l):Does Tryz.prog 179 [.slice A l.length c] w (fun v O=>v = .tuple #[.int .i64 (ZbS l).1,.bool (ZbS l).2]/\O=[]):=by
 have x:=q.le
 have s:=q.cap
 unfold maxLen at s
 generalize hres:ZbS l=res
 unfold ZbS at hres
 refine Zaa Tryz.func179 rfl rfl rfl rfl ?_
 repeat (first|(refine js ?_;(refine bx ?_;intro f))|refine walk ?_)
 refine Zai [(7,_),(8,_)] [] (fun g:Nat × Int=>[(4,.int .i64 g.2),(9,.int .i64 g.1)]) (fun _=>[]) (fun g=>g.1<=l.length/\Zce (l.drop g.1) g.2=res) (fun g=>l.length - g.1) (0,0) SFA SOA ⟨Nat.zero_le _,hres⟩ ?_
 rintro⟨k,m⟩ ⟨hk,hi⟩
 dsimp only at hk hi ⊢
 repeat (first|(refine js ?_;(refine bx ?_;intro f))|refine walk ?_)
 refine Zaf rfl (fun h=>?_) (fun h=>?_)
 ·have i:k<l.length:=by simpa using h
  obtain⟨hna,hca⟩:=q.rd k _ (List.getElem?_eq_getElem i)
  rw[Zah i,Zce]at hi
  generalize l[k]=r at *
  obtain⟨D,fr,to,C,⟨z,B,dd⟩,⟨cs,y⟩,sv,le⟩:=r
  simp only[DRule.enc]at hca hi
  repeat (first|(apply RL_pu;rfl;exact PuI)|(refine js ?_;(refine bx ?_;intro f))|refine walk1 ?_)
  refine Zaf rfl (fun j=>?_) (fun j=>?_)
  ·rw[if_pos (of_decide_eq_true j)]at hi
   repeat (first|(refine js ?_;(refine bx ?_;intro f))|refine walk ?_)
   exact⟨(k+1,m),OA,⟨OA,hi⟩,SFA,.nil⟩
  rw[if_neg (of_decide_eq_false j)]at hi
  repeat' (first|(refine js ?_;(refine bx ?_;intro f))|refine walk ?_|refine und ?_|(refine Zam rfl rfl rfl (fun d=>?_) (fun d=>?_))|(refine Zas rfl rfl rfl (fun d=>?_) (fun d=>?_))|(refine Zaf rfl (fun d=>?_) (fun d=>?_)))
  ·rename_i u
   simp only[Bool.not_eq_true',decide_eq_false_iff_not]at u d
   rw[if_pos ⟨u,d⟩]at hi
   exact ret_2 _ _ [] (.tmp rfl) (.tmp rfl) .nil ⟨by rw[<- hi],rfl⟩
  ·simp only[Bool.not_eq_false',decide_eq_true_eq]at d
   rw[if_neg (fun e=>e.2 d)]at hi
   exact⟨(k+1,sv),OA,⟨OA,hi⟩,SFA,.nil⟩
  ·simp only[Bool.not_eq_false',decide_eq_true_eq]at d
   rw[if_neg (fun e=>e.1 d)]at hi
   exact⟨(k+1,sv),OA,⟨OA,hi⟩,SFA,.nil⟩
 ·have t:k=l.length:=by
   have:=of_decide_eq_false h
   omega
  subst t
  rw[List.drop_length,Zce]at hi
  repeat (first|(refine js ?_;(refine bx ?_;intro f))|refine walk ?_)
  exact ret_2 _ _ [] (.tmp rfl) (.tmp rfl) .nil ⟨by rw[<- hi],rfl⟩
end Go.Proofs.YtpipekfmecikmaaGreatDoor
namespace Go.Wk
open Go Go.RowKit
section
variable {P:Program}{n:Nat}{wr:World}{fr:Fr}{O:List It}{Q:Exit->Fr->List It->Prop}
def RW (P:Program)(n:Nat)(wr:World)(c:Code)(Q:Exit->Fr->List It->Prop):Nat->Fr->List It->Prop
 | 0,_,_=>False
 | k+1,fr,O=>W P n wr c (Zat (RW P n wr c Q k) Q) fr O
theorem Znn {c:Code}:∀ (k:Nat) (fr:Fr) (O:List It),RW P n wr c Q k fr O->∀ a w,St n wr fr O a w->Code.rounds P c (lift n wr Q) k a w
 | 0,_,_,h,_,_,_=>h
 | k+1,fr,O,h,a,w,hs=>by
  rw[rounds_succ]
  refine wp_mono (h a w hs) ?_
  rintro e f w' ⟨fr',O',b,d⟩
  cases e with
  | normal=>exact Znn k fr' O' d f w' b
  | _=>exact⟨fr',O',b,d⟩
theorem Zqq {c:Code}(k:Nat)(h:RW P n wr c Q k fr O):W P n wr (.loop c) Q fr O:=fun a w b=>wp_loop_rounds k (Znn k fr O h a w b)
theorem Zd0 {c:Code}{k:Nat}(h:W P n wr c (Zat (RW P n wr c Q k) Q) fr O):RW P n wr c Q (k+1) fr O:=h
theorem Does.monoH {f:FuncId}{args:List Value}{w:World}{R R':Value->List It->Prop}(h:Does P f args w R)(j:∀ v O a w',R v O->Zaz a O w'->∃ O',R' v O'/\Zaz a O' w'):Does P f args w R' :=
 Calls.mono h fun _ _ ⟨v,O,b,c,d,e⟩=>by
  obtain⟨O',g,i⟩:=j v O _ _ e d
  exact⟨v,O',b,c,i,g⟩
end
section
variable {P:Program}{n:Nat}{wr:World}{fr:Fr}{O:List It}{ty:TypeId}
theorem Znu {t len e sz:Nat}{x g:Operand}{z:IntKind}{i:Int}{cs vs:List Value}[hA:ArrT P t len e sz true](v:ev fr x=some (.agg cs.toArray))(q:ev fr g=some (.int z i))(m:0<=i)(o:i<len)(u:(cs.drop (i.toNat*sz)).take sz=vs) :
  Pu P n wr fr O (.index t x g) ty (.agg vs.toArray):=fun a w d _ _ _ _=>by
 have h:=hA.h
 unfold Zkr at h
 split at h
 ·rename_i j l s
  split at h
  ·rename_i b k f
   simp only[Option.some.injEq,Prod.mk.injEq]at h
   obtain⟨rfl,rfl,rfl,rfl⟩:=h
   obtain⟨y,dd,c,r,p,_⟩:=Ty.parts f
   have:Ty P l b true:=⟨f⟩
   subst u
   simp only[execOp,d.sim.ev v,d.sim.ev q,Instr.index,asIntOf,Sem.run_bind,Sem.run_pure,Result.andThen_ok,run_underlying s,m,o,and_self,if_true,part,Zdx,ZcG]
   simp[List.take_drop]
  ·cases h
 ·cases h
end
end Go.Wk
namespace Go.Proofs.YtpipekfmecikmaaGreatDoor
open Go Go.RowKit Go.Wk
attribute [local irreducible] W RL Does Zat Zaj retQ Calls Pu Stp RD Qy Ay Zak ZbV
theorem ZiG {α:Type}(p:α->Bool):∀ (l:List α) (k:Nat),decide (0<=ZbW p l k)=l.any p
 | [],k=>rfl
 | x::l,k=>by
  rw[ZbW,List.any_cons]
  by_cases h:p x=true
  ·rw[if_pos h,h];simp
  ·rw[if_neg h,ZiG p l (k+1)]
   simp[h]
theorem ZeC (A:Option Addr)(c:Nat)(l:List DRule)(f:FuncId)[Body Tryz.prog f](us cs:List Value)(p:DRule->Bool)(w:World)(d:RdSl w A c DRule.enc 11 l)
  (e:∀ r w',Bel w.heap.size w w'->Does Tryz.prog f (us++[.agg (DRule.enc r).toArray]++cs) w' (fun v O=>v = .bool (p r)/\O=[])) :
  Does Tryz.prog 228 [.slice A l.length c,.func (.func f) us.toArray cs.toArray] w (fun v O=>v = .bool (l.any p)/\O=[]):=by
 have h:=fun w' (a:Bel w.heap.size w w')=>Zff A c l f us cs p w' (d.up a) fun r g b=>e r g (a.trans (b.mono a.size))
 rw[<- ZiG p l 0]
 generalize ZbW p l 0=k at *
 refine Zaa Tryz.func228 rfl rfl rfl rfl ?_
 repeat (first|(refine js ?_;(refine Zab h ?_))|refine walk ?_)
 exact rtA
theorem Zua (r:DRule)(w:World):Does Tryz.prog 226 [.agg (DRule.enc r).toArray] w (fun v O=>v = .bool (decide (r.save=0))/\O=[]):=by
 obtain⟨f,fr,to,e,⟨b,c,dd⟩,⟨cs,a⟩,sv,le⟩:=r
 show Does _ _ [.agg #[.string f,.int .i64 fr,.int .i64 to,.int .i64 e,.int .i64 b,.int .i64 c,.int .i64 dd,.int .i64 cs,.int .i64 a,.int .i64 sv,.string le]] w _
 refine Zaa Tryz.func226 rfl rfl rfl rfl ?_
 repeat' (first|(refine js ?_;(refine bx ?_;intro g))|refine walk ?_|(refine Zaf rfl (fun d=>?_) (fun d=>?_)))
 all_goals exact clo1
theorem ZrO (r:DRule)(w:World):Does Tryz.prog 272 [.agg (DRule.enc r).toArray] w (fun v O=>v = .bool (!decide (r.to=1048576))/\O=[]):=by
 obtain⟨f,fr,to,e,⟨b,c,dd⟩,⟨cs,a⟩,sv,le⟩:=r
 show Does _ _ [.agg #[.string f,.int .i64 fr,.int .i64 to,.int .i64 e,.int .i64 b,.int .i64 c,.int .i64 dd,.int .i64 cs,.int .i64 a,.int .i64 sv,.string le]] w _
 refine Zaa Tryz.func272 rfl rfl rfl rfl ?_
 repeat' (first|(refine js ?_;(refine bx ?_;intro g))|refine walk ?_|(refine Zaf rfl (fun d=>?_) (fun d=>?_)))
 all_goals exact clo1
theorem Zt9 (r:DRule)(ad:Addr)(m:Int)(w:World)(h:w.cell? ad=some (.int .i64 m)):Does Tryz.prog 227 [.agg (DRule.enc r).toArray,.pointer (some ad)] w (fun v O=>v = .bool (!decide (r.save=0)&&!decide (r.save=m))/\O=[]):=by
 obtain⟨f,fr,to,e,⟨c,d,dd⟩,⟨cs,b⟩,sv,le⟩:=r
 show Does _ _ [.agg #[.string f,.int .i64 fr,.int .i64 to,.int .i64 e,.int .i64 c,.int .i64 d,.int .i64 dd,.int .i64 cs,.int .i64 b,.int .i64 sv,.string le],.pointer (some ad)] w _
 refine Zaa Tryz.func227 rfl rfl rfl rfl ?_
 repeat' (first|(apply RL_pu;rfl;(apply Pu_loadO1;rfl;exact h))|(refine js ?_;(refine bx ?_;intro g))|refine walk1 ?_|refine und ?_|(refine Zam rfl rfl rfl (fun a=>?_) (fun a=>?_))|(refine Zas rfl rfl rfl (fun a=>?_) (fun a=>?_))|(refine Zaf rfl (fun a=>?_) (fun a=>?_)))
 all_goals exact clo1
end Go.Proofs.YtpipekfmecikmaaGreatDoor
namespace Go.Proofs.YtpipekfmecikmaaGreatDoor
open Go Go.RowKit Go.Wk
attribute [local irreducible] W RL Does Zat Zaj retQ Calls Pu Stp RD Qy Ay
theorem ZoT (A:Option Addr)(c:Nat)(x:List DRule)(w:World)(f:RdSl w A c DRule.enc 11 x)(p:x.length<=1000000) :
  Does Tryz.prog 271 [.slice A x.length c] w (ZgR 68 11 DRule.enc x):=by
 refine Zaa Tryz.func271 rfl rfl rfl rfl ?_
 repeat (first|(refine js ?_;(refine bx ?_;intro d))|refine walk ?_)
 refine Zaf rfl (fun e=>?_) (fun e=>?_)
 ·obtain rfl:=f.none e
  refine Zdq 68 11 ?_
  repeat (first|(refine js ?_;(refine bx ?_;intro d))|refine walk ?_)
  exact ret_1 _ [.row (.slice none 0 0) 68 11 0 []] (.tmp rfl) SOA ⟨none,0,rfl,rfl⟩
 repeat (first|(refine js ?_;(first|(apply ZcW;rfl;rfl;(intro A' c';(focus repeat' constructor));(intro w' m _;exact(f.up m).rd.raw DRule.len (by decide));exact Zbg DRule.len x;exact ZeY oneR x;(simp only[maxLen];omega);omega;intro A' c' g i j)|(refine bx ?_;intro d)))|refine walk ?_)
 exact ret_1 _ _ (.tmp rfl) (.refl _) ⟨A',c',rfl,rfl⟩
theorem Zeo (k:ByteArray)(v:Value)(x:ByteArray):∀ m:List (ByteArray × Value),mget (mset m k v) x=if x=k then some v else mget m x
 | []=>by simp[mset,mget]
 | (y,u)::r=>by
  simp only[mset]
  split
  ·rename_i h;subst h;simp only[mget];split <;> simp_all
  ·rename_i h
   simp only[mget,Zeo k v x r]
   split
   ·rename_i a;subst a;rw[if_neg (fun e=>h e.symm)]
   ·rfl
def MpB (m:List (ByteArray × Value))(l:List ByteArray):Prop:=∀ x,(mget m x).getD (.bool false) = .bool (memB x l)
theorem MpB.set {m:List (ByteArray × Value)}{l:List ByteArray}(h:MpB m l)(y:ByteArray):MpB (mset m y (.bool true)) (l++[y]):=fun x=>by
 rw[Zeo,Zmw]
 by_cases e:x=y
 ·subst e;simp
 ·rw[if_neg e,h x];simp[show ¬ y=x from fun h=>e h.symm]
theorem MpB.nil:MpB [] []:=fun _=>rfl
structure MG (α:Type) where
 k:Nat
 A:Option Addr
 c:Nat
 m:Nat
 xs:List Value
 acc:List α
 mp:List (ByteArray × Value)
theorem ZrH (Ar Az Al As:Option Addr)(j q i cs:Nat)(a:DSource)(w:World)(s:Zal w Ar Az Al As j q i cs a)(z:a.rules.length<=1000000) :
  Does Tryz.prog 174 [srcV Ar Az Al As j q i cs a] w (ZgR 9 1 ZaO (ZbC a.rules [])):=by
 generalize hres:ZbC a.rules []=res
 refine Zaa Tryz.func174 rfl rfl rfl rfl ?_
 repeat (first|(refine js ?_;(refine bx ?_;intro d))|refine walk ?_)
 refine Zdq 9 1 ?_
 refine Zai [(3,_),(9,_),(10,_)] [] (fun g:MG ByteArray=>[(4,.slice g.A g.m g.c),(11,.int .i64 g.k)]) (fun g=>[.row (.slice g.A g.m g.c) 9 1 g.m g.xs,.mp _ g.mp]) (fun g=>g.k<=a.rules.length/\g.m=g.acc.length/\g.xs=g.acc.flatMap ZaO/\g.m<=g.k/\MpB g.mp g.acc/\ZbC (a.rules.drop g.k) g.acc=res) (fun g=>a.rules.length - g.k) ⟨0,none,0,0,[],[],[]⟩ ⟨rfl,rfl,rfl,rfl,rfl,trivial⟩ SOA ⟨by simp,rfl,rfl,Nat.le_refl _,.nil,by simpa using hres⟩ ?_
 rintro⟨k,A,c,m,xs,acc,mp⟩ ⟨hk,hm,hx,hmk,hp,hi⟩
 dsimp only at hk hm hx hmk hp hi ⊢
 repeat (first|(refine js ?_;(refine bx ?_;intro d))|refine walk ?_)
 refine Zaf rfl (fun f=>?_) (fun f=>?_)
 ·simp only[decide_eq_true_eq,Int.ofNat_lt]at f
  obtain⟨hna,hca⟩:=s.r.rd k _ (List.getElem?_eq_getElem f)
  have hnb:=hna
  have hcb:=hca
  rw[Zah f,ZbC]at hi
  generalize a.rules[k]=r at *
  repeat (first|(apply RL_pu;rfl;(first|exact PuI|(apply ZgP;rfl;rfl;(focus repeat' constructor);exact hp _)))|(refine js ?_;(refine bx ?_;intro d))|refine walk1 ?_)
  refine Zaf rfl (fun e=>?_) (fun e=>?_)
  ·simp only[Bool.not_eq_true']at e
   rw[e]at hi
   repeat (first|(apply RL_pu;rfl;exact PuI)|(refine js ?_;(first|(apply ZaF;rfl;rfl;(intro A' c';(focus repeat' constructor));(intro w' _ t;exact ZbD (t.of (by repeat' constructor)));rfl;rfl;(simp only[maxLen];omega);omega;intro A' c' u x y)|(refine bx ?_;intro d)))|refine walk1 ?_)
   exact⟨⟨k+1,A',c',m+1,xs++ZaO r.name,acc++[r.name],mset mp r.name (.bool true)⟩,OA,⟨OA,by simp[hm],by rw[hx];exact Zb0 acc r.name,OA,hp.set _,by rw[<- hi];simp⟩,SFA,SOA⟩
  simp only[Bool.not_eq_false']at e
  rw[e]at hi
  repeat (first|(refine js ?_;(refine bx ?_;intro d))|refine walk ?_)
  exact⟨⟨k+1,A,c,m,xs,acc,mp⟩,OA,⟨OA,hm,hx,OA,hp,by rw[<- hi];simp⟩,SFA,SOA⟩
 simp only[decide_eq_false_iff_not,Int.ofNat_lt]at f
 rw[List.drop_eq_nil_of_le (by omega),ZbC]at hi
 subst hi
 repeat (first|(refine js ?_;(refine bx ?_;intro d))|refine walk ?_)
 exact ret_1 _ [.row (.slice A acc.length c) 9 1 acc.length (acc.flatMap ZaO)] (.tmp rfl) (by subst hm hx;exact SOA) ⟨A,c,by rw[hm],rfl⟩
end Go.Proofs.YtpipekfmecikmaaGreatDoor
