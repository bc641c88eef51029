/- Parts of the proof. -/
import Derived.Test.YtpipekfmecikmaaGreatDoorW04
import Derived.Test.YtpipekfmecikmaaGreatDoorProg
set_option maxHeartbeats 4000000
set_option linter.unusedVariables false
set_option linter.unusedSimpArgs false
namespace Go.Wk
open Go Go.RowKit
theorem Zk6 {n:Int}:inR .i64 n↔-9223372036854775808<=n/\n<=9223372036854775807:=Iff.rfl
section
variable {P:Program}{n:Nat}{wr:World}{fr:Fr}{O:List It}{ty:TypeId}
theorem Pu_conv64 {t t':TypeId}{x:Operand}{c:IntKind}{i:Int}{sz:Nat}{a:Bool}[Ty P t sz a][IntT P t' .i64](b:ev fr x=some (.int c i))(h : -9223372036854775808<=i/\i<=9223372036854775807):Pu P n wr fr O (.convert t t' x) ty (.int .i64 i):=by
 have:=Pu_convI (P:=P) (n:=n) (wr:=wr) (O:=O) (ty:=ty) (t:=t) (t':=t') b
 rwa[Zcm h]at this
theorem Pu_remE {t t':TypeId}{x y:Operand}{a:IntKind}{i j:Int}(c:ev fr x=some (.int a i))(d:ev fr y=some (.int a j))(b:0<=i)(e:0<j):Pu P n wr fr O (.binOp .rem t x y t') ty (.int a (i % j)):=by
 have:=Pu_rem (P:=P) (n:=n) (wr:=wr) (O:=O) (ty:=ty) (t:=t) (t':=t') c d (by omega)
 rwa[Int.tmod_eq_emod_of_nonneg b]at this
theorem Zs8 {i j M:Int}(a:0<=i)(b:i<=M)(e:0<j):0<=i / j/\i / j<=M:=by
 have c:0<=i / j:=Int.ediv_nonneg a (by omega)
 have d:i / j<=i:=Int.ediv_le_self _ a
 omega
theorem Pu_quo8 {t t':TypeId}{x y:Operand}{i j:Int}(d:ev fr x=some (.int .u8 i))(e:ev fr y=some (.int .u8 j))(a:0<=i)(b:i<=255)(c:0<j):Pu P n wr fr O (.binOp .quo t x y t') ty (.int .u8 (i / j)):=by
 have:=Pu_quo (P:=P) (n:=n) (wr:=wr) (O:=O) (ty:=ty) (t:=t) (t':=t') d e (by omega)
 have f:=Zs8 a b c
 rwa[Int.tdiv_eq_ediv_of_nonneg a,show IntKind.u8.wrap (i / j)=i / j from by simp[IntKind.wrap,IntKind.signed,IntKind.bits];omega]at this
theorem Pu_quo16 {t t':TypeId}{x y:Operand}{i j:Int}(d:ev fr x=some (.int .u16 i))(e:ev fr y=some (.int .u16 j))(a:0<=i)(b:i<=65535)(c:0<j):Pu P n wr fr O (.binOp .quo t x y t') ty (.int .u16 (i / j)):=by
 have:=Pu_quo (P:=P) (n:=n) (wr:=wr) (O:=O) (ty:=ty) (t:=t) (t':=t') d e (by omega)
 have f:=Zs8 a b c
 rwa[Int.tdiv_eq_ediv_of_nonneg a,show IntKind.u16.wrap (i / j)=i / j from by simp[IntKind.wrap,IntKind.signed,IntKind.bits];omega]at this
theorem Pu_quo64 {t t':TypeId}{x y:Operand}{i j:Int}(d:ev fr x=some (.int .i64 i))(e:ev fr y=some (.int .i64 j))(a:0<=i)(b:i<=9223372036854775807)(c:0<j):Pu P n wr fr O (.binOp .quo t x y t') ty (.int .i64 (i / j)):=by
 have:=Pu_quo (P:=P) (n:=n) (wr:=wr) (O:=O) (ty:=ty) (t:=t) (t':=t') d e (by omega)
 have f:=Zs8 a b c
 rwa[Int.tdiv_eq_ediv_of_nonneg a,Zcm (by omega)]at this
theorem sliceZ_len (len sz:Nat)(z:List Value):(Zcn len sz z).length=len*sz:=by simp[Zcn]
def ZhP:List Value->List ByteArray
 | []=>[]
 | .string s::l=>s::ZhP l
 | _::l=>ZhP l
theorem Pu_loadLit {t sz b j e:Nat}{x:Operand}{cs:List Value}{R:List It}[Ty P t sz false](i:ev fr x=some (.pointer (some ((adr (some ⟨b,0,none⟩)).add (j*1)))))(h:Pick (.blk b cs e) O R)(a:(ZhP cs).map Value.string=cs)(c:j<cs.length) :
  Pu P n wr fr O (.load t x) ty (.string ((ZhP cs).getD j ByteArray.empty)) :=
 ZhA i fun w _ f=>by
  have d:j<(ZhP cs).length:=by rw[<- a]at c;simpa using c
  have g:cs[j]?=some (.string ((ZhP cs).getD j ByteArray.empty)):=by
   generalize ZhP cs=L at a d
   subst a
   simp[d]
  rw[show(adr (some (⟨b,0,none⟩:Addr))).add (j*1)=⟨b,0+j,none⟩ from by rw[Nat.mul_one];exact Zb5 b 0 j,ZcD (f.of h),Nat.zero_add,g]
end
inductive Nf:List Value->List Value->Prop
 | nil:Nf [] []
 | cons {x:Value} {l l':List Value}:Nf l l'->Nf (x::l) (x::l')
theorem Nf.eq {l a:List Value}(h:Nf l a):l=a:=by
 induction h with
 | nil=>rfl
 | cons _ ih=>rw[ih]
inductive SetAt:List Value->Nat->Value->List Value->Prop
 | here {x v:Value} {l:List Value}:SetAt (x::l) 0 v (v::l)
 | there {x v:Value} {j:Nat} {l l':List Value}:SetAt l j v l'->SetAt (x::l) (j+1) v (x::l')
theorem SetAt.eq {l a:List Value}{j:Nat}{v:Value}(h:SetAt l j v a):l.set j v=a:=by
 induction h with
 | here=>rfl
 | there _ ih=>rw[List.set_cons_succ,ih]
inductive Lay:List Value->Nat->List Value->List Value->Prop
 | nil {cs:List Value} {j:Nat}:Lay cs j [] cs
 | cons {cs cs1 cs2 vs:List Value} {j:Nat} {v:Value}:SetAt cs j v cs1->Lay cs1 (j+1) vs cs2->Lay cs j (v::vs) cs2
theorem Lay.eq {cs a vs:List Value}{j:Nat}(h:Lay cs j vs a):lay cs j vs=a:=by
 induction h with
 | nil=>rfl
 | cons h _ ih=>rw[lay,h.eq,ih]
section
variable {P:Program}{n:Nat}{wr:World}{ops:Array Oper}{fr:Fr}{O:List It}{ty:TypeId}{pos:String}{af:Array Edge}{dst:Option Tmp}{g:Option (Nat × Bool)}{Kp:Value->List It->Prop}
theorem Pu_fieldAddr0 {s f a sz b:Nat}{c:Bool}{x:Operand}[FieldAt P s f a sz c](d:ev fr x=some (.pointer (some ⟨b,0,none⟩))):Pu P n wr fr O (.fieldAddr s x f) ty (.pointer (some ⟨b,a,none⟩)):=by
 have h:=Pu_fieldAddr (P:=P) (n:=n) (wr:=wr) (O:=O) (ty:=ty) (s:=s) (f:=f) d
 rwa[Zb5,Nat.zero_add]at h
theorem Pu_loadNf {t sz b j:Nat}{x:Operand}{cs vs:List Value}{a:TypeId}{R:List It}[Ty P t sz true](f:ev fr x=some (.pointer (some ⟨b,j,none⟩)))(d:Pick (.blk b cs a) O R)(e:Nf ((cs.drop j).take sz) vs)(c:vs.length=sz):Pu P n wr fr O (.load t x) ty (.agg vs.toArray):=Zns f d e.eq c
theorem Pu_fieldNf {s f a sz:Nat}{x:Operand}{cs vs:List Value}[FieldAt P s f a sz true](c:ev fr x=some (.agg cs.toArray))(b:Nf ((cs.drop a).take sz) vs):Pu P n wr fr O (.field s x f) ty (.agg vs.toArray):=ZuZ c b.eq
theorem Pu_buildNf {t:TypeId}{c:List (Nat × Operand)}{vs:List (Nat × Value)}{z cs a:List Value}{b:List (Nat × Nat)}[ZeroT P t z][LayT P t b](f:evpO fr c=some vs)(d:bld b z vs=some cs)(e:Nf cs a):Pu P n wr fr O (.build t c.toArray) ty (.agg a.toArray):=by
 have h:=Zxk (P:=P) (n:=n) (wr:=wr) (O:=O) (ty:=ty) (t:=t) f d
 rwa[e.eq]at h
theorem Stp_storeNf {t sz b j:Nat}{e:Bool}{x y:Operand}{cs:List Value}{d:TypeId}{v:Value}{vs a:List Value}{O':List It}[Ty P t sz e](o:ev fr x=some (.pointer (some ⟨b,j,none⟩)))(p:ev fr y=some v)
  (m:Upd O (.blk b cs d) (.blk b a d) O') (c:Nf v.cells.toList vs) (l:vs.length=sz) (f:vs.all Value.oneCell'=true) (i:Nat.ble (j+sz) cs.length=true) (h:Lay cs j vs a)
  (k:Kp undef O'):Stp P n wr fr O ⟨dst,.store t x y,ty,pos,af,g⟩ Kp:=ZgI o p m c.eq l f i h.eq k
theorem Stp_boxNf {t:TypeId}{x:Operand}{v:Value}{cs:List Value}(c:ev fr x=some v)(a:Nf v.cells.toList cs)(k:∀ b,Kp (.pointer (some ⟨b,0,none⟩)) (.blk b cs t::O)):Stp P n wr fr O ⟨dst,.box t x,ty,pos,af,g⟩ Kp:=ZAw c (by rw[a.eq];exact k)
theorem Stp_buildSliceNf {t e sz a len:Nat}{z:List Value}{f:List (Nat × Operand)}{vs:List (Nat × Value)}{cs c:List Value}[ElemZ P t e sz a][ZeroT P e z](j:evpO fr f=some vs)(d:Nat.ble (len*sz) 16777216=true)
  (h:bld (Zd5 len sz) (Zcn len sz z) vs=some cs) (i:Nf cs c) (k:∀ b,Kp (.slice (some ⟨b,0,none⟩) len len) (.blk b c e::O)):Stp P n wr fr O ⟨dst,.buildSlice t len f.toArray,ty,pos,af,g⟩ Kp:=Zfh j d h (by rw[i.eq];exact k)
theorem Ay_buildSliceNf {t e sz a len:Nat}{z:List Value}{g:List (Nat × Operand)}{vs:List (Nat × Value)}{cs c:List Value}{d i dd:Nat}[ElemZ P t e sz a][ZeroT P e z](l:evpO fr g=some vs)(f:Nat.ble (len*sz) 16777216=true)
  (j:bld (Zd5 len sz) (Zcn len sz z) vs=some cs) (k:Nf cs c):Ay P n wr ops fr ⟨some d,.buildSlice t len g.toArray,ty,pos,af,none⟩ ⟨i,dd,fun b => .slice (some ⟨b,0,none⟩) len len,c,e,fun b => .blk b c e⟩:=by
 have h:=Zgb (P:=P) (n:=n) (wr:=wr) (ops:=ops) (fr:=fr) (ty:=ty) (pos:=pos) (af:=af) (t:=t) (d:=d) (i:=i) (dd:=dd) l f j
 rwa[k.eq]at h
def ZrT (sz:Nat):Nat->List (Nat × Value)->Bool
 | _,[]=>true
 | i,(k,v)::r=>Nat.beq k i&&Nat.beq v.cells.toList.length sz&&ZrT sz (i+1) r
def catC:List (Nat × Value)->List Value
 | []=>[]
 | (_,v)::r=>v.cells.toList++catC r
theorem ZtA:∀ (vs b c a:List Value),c.length=vs.length->lay (b++(c++a)) b.length vs=b++(vs++a)
 | [],b,c,a,h=>by
  have:c=[]:=List.eq_nil_of_length_eq_zero (by simpa using h)
  simp[lay,this]
 | v::r,b,[],a,h=>by simp at h
 | v::r,b,o::c,a,h=>by
  have e:=ZtA r (b++[v]) c a (by simpa using h)
  have d:(b++(o::c++a)).set b.length v=(b++[v])++(c++a):=by simp
  rw[lay,d]
  simpa using e
theorem Zuf (sz len:Nat):∀ (vs:List (Nat × Value)) (i:Nat) (b a:List Value),ZrT sz i vs=true->i+vs.length=len->b.length=i*sz->a.length=vs.length*sz->bld (Zd5 len sz) (b++a) vs=some (b++catC vs)
 | [],i,b,a,_,_,_,hr=>by
  have:a=[]:=List.eq_nil_of_length_eq_zero (by simpa using hr)
  simp[bld,catC,this]
 | (k,v)::r,i,b,a,ho,hl,hp,hr=>by
  simp only[ZrT,Bool.and_eq_true]at ho
  obtain⟨⟨f,d⟩,g⟩:=ho
  have f:=Nat.eq_of_beq_eq_true f
  have d:=Nat.eq_of_beq_eq_true d
  subst f
  simp only[List.length_cons]at hl hr
  have m:(r.length+1)*sz=r.length*sz+sz:=Nat.succ_mul _ _
  have j:(Zd5 len sz)[k]?=some (k*sz,sz):=by
   unfold Zd5
   rw[List.getElem?_map,List.getElem?_range (by omega)]
   rfl
  have l:=Zuf sz len r (k+1) (b++v.cells.toList) (a.drop sz) g (by omega) (by rw[List.length_append,hp,d,Nat.succ_mul]) (by rw[List.length_drop,hr];omega)
  have c:a=a.take sz++a.drop sz:=(List.take_append_drop sz a).symm
  have e:lay (b++a) (k*sz) v.cells.toList=(b++v.cells.toList)++a.drop sz:=by
   rw[<- hp]
   conv=>lhs;rw[c]
   rw[ZtA _ _ _ _ (by rw[List.length_take,d,hr];omega)]
   simp
  simp only[bld,j]
  have h:(Nat.beq v.cells.toList.length sz&&Nat.ble (k*sz+sz) (b++a).length)=true:=by
   rw[Bool.and_eq_true]
   exact⟨by rw[d];exact Nat.beq_refl sz,Nat.ble_eq_true_of_le (by rw[List.length_append,hp,hr];omega)⟩
  rw[h,e]
  simp only[cond_true,l,catC]
  rw[List.append_assoc]
theorem Zug {sz len:Nat}{z:List Value}{vs:List (Nat × Value)}(b:ZrT sz 0 vs=true)(a:Nat.beq vs.length len=true):bld (Zd5 len sz) (Zcn len sz z) vs=some (catC vs):=by
 have a:=Nat.eq_of_beq_eq_true a
 have:=Zuf sz len vs 0 [] (Zcn len sz z) b (by omega) (by simp) (by simp[Zcn,a])
 simpa using this
theorem Stp_buildSliceC {t e sz a len:Nat}{z:List Value}{f:List (Nat × Operand)}{vs:List (Nat × Value)}{c:List Value}[ElemZ P t e sz a][ZeroT P e z](k:evpO fr f=some vs)(d:Nat.ble (len*sz) 16777216=true)
  (h:ZrT sz 0 vs=true) (i:Nat.beq vs.length len=true) (j:Nf (catC vs) c) (l:∀ b,Kp (.slice (some ⟨b,0,none⟩) len len) (.blk b c e::O)):Stp P n wr fr O ⟨dst,.buildSlice t len f.toArray,ty,pos,af,g⟩ Kp:=Zfh k d (Zug h i) (by rw[j.eq];exact l)
theorem Ay_buildSliceC {t e sz a len:Nat}{z:List Value}{g:List (Nat × Operand)}{vs:List (Nat × Value)}{c:List Value}{d i dd:Nat}[ElemZ P t e sz a][ZeroT P e z](m:evpO fr g=some vs)(f:Nat.ble (len*sz) 16777216=true)
  (j:ZrT sz 0 vs=true) (k:Nat.beq vs.length len=true) (l:Nf (catC vs) c):Ay P n wr ops fr ⟨some d,.buildSlice t len g.toArray,ty,pos,af,none⟩ ⟨i,dd,fun b => .slice (some ⟨b,0,none⟩) len len,c,e,fun b => .blk b c e⟩:=by
 have h:=Zgb (P:=P) (n:=n) (wr:=wr) (ops:=ops) (fr:=fr) (ty:=ty) (pos:=pos) (af:=af) (t:=t) (d:=d) (i:=i) (dd:=dd) m f (Zug j k)
 rwa[l.eq]at h
end
structure Hold (p:Prop):Prop where
 out:p
theorem NfA {l l':List Value}(h:Nf l l':=by repeat (first|exact Go.Wk.Nf.nil|apply Go.Wk.Nf.cons)):Nf l l':=h
theorem SFA {a b:Fr}(h:Sub a b:=by repeat (first|exact trivial|refine⟨rfl,?_⟩)):Sub a b:=h
theorem SOA {a b:List It}(h:SubO a b:=by first|exact .refl _|(repeat (first|exact Go.Wk.SubO.nil|(apply Go.Wk.SubO.cons;focus repeat' constructor)))):SubO a b:=h
theorem STA {a b:List It}(h:SubO a b:=by repeat (first|exact Go.Wk.SubO.nil|(apply Go.Wk.SubO.cons;(focus repeat' constructor))|exact .refl _|apply Go.Wk.SubO.drop)):SubO a b:=h
theorem stA {G G':Prop}(k:G')(h:Hold G'->G:=by intro k;(first|(apply Go.Wk.Stp_storeNf;rfl;rfl;(focus repeat' constructor);exact Go.Wk.NfA;rfl;rfl;rfl;(focus repeat' constructor))|(apply Go.Wk.Stp_mapUpdate;rfl;rfl;rfl;(focus repeat' constructor)));exact k.out):G:=h ⟨k⟩
theorem OA {p:Prop}(h:p:=by first|omega|(dsimp only;omega)):p:=h
section
variable {P:Program}{n:Nat}{wr:World}{fr:Fr}{O:List It}{ty:TypeId}{pos:String}{af:Array Edge}{f:FuncId}{xs:List Operand}{ts:Array TypeId}{us vs cs:List Value}{dst:Option Tmp}{g:Option (Nat × Bool)}{x:Value}{gx:Operand}{Kp:Value->List It->Prop}[Body P f]
theorem ZaH (h:∀ w,Bel wr.heap.size wr w->Zaz wr.heap.size O w->Does P f vs w (fun v O=>v=x/\O=[]))(k:Kp x ([]++O))(hx:evsO fr xs=some vs:=by rfl):Stp P n wr fr O ⟨dst,.call ⟨.value (.func f),xs.toArray,ts⟩,ty,pos,af,g⟩ Kp :=
 Zae hx h (by rintro v O' ⟨rfl,rfl⟩;exact k)
theorem Zab (h:∀ w,Bel wr.heap.size wr w->Does P f vs w (fun v O=>v=x/\O=[]))(k:Kp x ([]++O))(hx:evsO fr xs=some vs:=by rfl):Stp P n wr fr O ⟨dst,.call ⟨.value (.func f),xs.toArray,ts⟩,ty,pos,af,g⟩ Kp :=
 ZaH (fun w a _=>h w a) k hx
theorem Zf2 (h:∀ w,Bel wr.heap.size wr w->Zaz wr.heap.size O w->Does P f (us++vs++cs) w (fun v O=>v=x/\O=[]))(k:Kp x ([]++O))(hg:ev fr gx=some (.func (.func f) us.toArray cs.toArray):=by rfl)(hx:evsO fr xs=some vs:=by rfl):Stp P n wr fr O ⟨dst,.call ⟨.value gx,xs.toArray,ts⟩,ty,pos,af,g⟩ Kp :=
 Zar hg hx h (by rintro v O' ⟨rfl,rfl⟩;exact k)
end
theorem clo1 {G:Prop}(h:G:=by first|(refine Go.Wk.ret_1 _ [] (.tmp rfl) .nil ⟨?_,rfl⟩;first|rfl|(simp only[*,Bool.true_and,Bool.false_and,Bool.true_or,Bool.false_or,Bool.not_true,Bool.not_false];done)|(simp_all;done)|(simp_all;omega)|(simp_all;rw[Bool.eq_iff_iff];simp;omega))|(exfalso;simp_all;done)|(exfalso;simp_all;omega)|(exfalso;omega)):G:=h
theorem clo2 {G:Prop}(h:G:=by first|(refine Go.Wk.ret_2 _ _ [] (.tmp rfl) (.tmp rfl) .nil ⟨?_,rfl⟩;first|rfl|(simp only[*,Bool.true_and,Bool.false_and,Bool.true_or,Bool.false_or,Bool.not_true,Bool.not_false];done)|(simp_all;done)|(simp_all;omega)|(simp_all;rw[Bool.eq_iff_iff];simp;omega))|(exfalso;simp_all;done)|(exfalso;simp_all;omega)|(exfalso;omega)):G:=h
theorem rtA {G:Prop}(h:G:=by exact Go.Wk.ret_1 _ [] (.tmp rfl) .nil ⟨rfl,rfl⟩):G:=h
theorem rtB {G:Prop}(h:G:=by exact Go.Wk.ret_2 _ _ [] (.tmp rfl) (.tmp rfl) .nil ⟨rfl,rfl⟩):G:=h
theorem rtC {G:Prop}(h:G:=by exact Go.Wk.ret_2 _ _ [] (.cellB rfl (by repeat' constructor) rfl rfl) (.tmp rfl) .nil ⟨rfl,rfl⟩):G:=h
theorem PuI {G:Prop}(h:G:=by first|(apply Go.Wk.Pu_indexAddr;rfl;rfl;omega;omega;(first|exact hna|exact hnb))|(apply Go.Wk.Pu_loadON;rfl;(first|exact hca|exact hcb);rfl)|(apply Go.Wk.Pu_loadO1';rfl;(first|exact hca|exact hcb);rfl)|(apply Go.Wk.Pu_loadO1;rfl;(first|exact hca 0 _ rfl|exact hcb 0 _ rfl))):G:=h
theorem und {G G':Prop}(k:G')(h:Hold G'->G:=by intro k;exact Go.Wk.RL_und rfl rfl rfl rfl k.out):G:=h ⟨k⟩
theorem RLid {P:Program}{n:Nat}{wr:World}{ops:Array Oper}{a:List Oper}{K:Fr->List It->Prop}{fr:Fr}{O:List It}(h:RL P n wr ops a K fr O):RL P n wr ops a K fr O:=h
theorem bx {G G':Prop}(k:G')(h:Hold G'->G:=by intro k;(first|(apply Go.Wk.Stp_boxNf;rfl;exact Go.Wk.NfA;exact k.out)|(apply Go.Wk.Stp_alloc;exact k.out)|(apply Go.Wk.Stp_buildSlice0;exact k.out)|(apply Go.Wk.Stp_buildSliceC;rfl;rfl;rfl;rfl;exact Go.Wk.NfA;exact k.out)|(apply Go.Wk.Stp_buildSliceNf;rfl;rfl;rfl;exact Go.Wk.NfA;exact k.out)|(apply Go.Wk.Stp_makeMap;exact k.out))):G:=h ⟨k⟩
section
variable {P:Program}{n:Nat}{wr:World}{ops:Array Oper}{rest:List Oper}{K:Fr->List It->Prop}{fr:Fr}{O:List It}{ty:TypeId}{pos:String}{af:Array Edge}{d:Nat}
theorem PuA {op:Op}{v:Value}(h:Pu P n wr fr O op ty v:=by(first|(apply Go.Wk.Pu_move;rfl)|(apply Go.Wk.Pu_assign;rfl)|(apply Go.Wk.Pu_pickT;rfl;rfl)|(apply Go.Wk.Pu_pickF;rfl;rfl)|(apply Go.Wk.Pu_fieldAddr0;rfl)|(apply Go.Wk.Pu_fieldAddr;rfl)|(apply Go.Wk.Pu_loadNf;rfl;(focus repeat' constructor);exact Go.Wk.NfA;rfl)|(apply Go.Wk.Pu_loadB1;rfl;(focus repeat' constructor);rfl)|(apply Go.Wk.Pu_field1;rfl;rfl)|(apply Go.Wk.Pu_fieldNf;rfl;exact Go.Wk.NfA)|(apply Go.Wk.Pu_extract;rfl;rfl)|(apply Go.Wk.Pu_buildNf;rfl;rfl;exact Go.Wk.NfA)|(apply Go.Wk.Pu_nilCheck;rfl)|(apply Go.Wk.Pu_nilCheckF;rfl)|(apply Go.Wk.Pu_makeFunc;rfl;rfl)|(apply Go.Wk.Pu_lookup;rfl;rfl;(focus repeat' constructor))|(apply Go.Wk.Pu_lookupOk;rfl;rfl;(focus repeat' constructor))|(apply Go.Wk.Pu_not;rfl)|(apply Go.Wk.Pu_negW;rfl)|(apply Go.Wk.Pu_conv64;rfl;(constructor <;> omega))|(apply Go.Wk.Pu_convI;rfl)|(apply Go.Wk.Pu_lss;rfl;rfl)|(apply Go.Wk.Pu_leq;rfl;rfl)|(apply Go.Wk.Pu_gtr;rfl;rfl)|(apply Go.Wk.Pu_geq;rfl;rfl)|(apply Go.Wk.Pu_eql;rfl;rfl)|(apply Go.Wk.Pu_neq;rfl;rfl)|(apply Go.Wk.Pu_remE;rfl;rfl;omega;omega)|(apply Go.Wk.Pu_rem;rfl;rfl;(first|decide|omega))|(apply Go.Wk.Pu_quo8;rfl;rfl;omega;omega;omega)|(apply Go.Wk.Pu_quo16;rfl;rfl;omega;omega;omega)|(apply Go.Wk.Pu_quo64;rfl;rfl;omega;omega;omega)|(apply Go.Wk.Pu_quo;rfl;rfl;(first|decide|omega))|(apply Go.Wk.Pu_loadLit;rfl;(focus repeat' constructor);rfl;(simp only[Go.Wk.lay_length,Go.Wk.sliceZ_len,List.length_cons,List.length_nil];omega))|(apply Go.Wk.Pu_indexAddr;rfl;rfl;omega;omega;nofun)|(apply Go.Wk.Pu_add;rfl;rfl;(constructor <;> omega))|(apply Go.Wk.Pu_sub';rfl;rfl;(constructor <;> omega))|(apply Go.Wk.Pu_eqlS;rfl;rfl)|(apply Go.Wk.Pu_neqS;rfl;rfl)|(apply Go.Wk.Pu_lssS;rfl;rfl)|(apply Go.Wk.Pu_eqB;rfl;rfl)|(apply Go.Wk.Pu_neqB;rfl;rfl)|(apply Go.Wk.Pu_eqNil;rfl)|(apply Go.Wk.Pu_sliceH;rfl;rfl;omega;omega)|(apply Go.Wk.Pu_capL;rfl)|(apply Go.Wk.Pu_lenL;rfl)|(apply Go.Wk.Pu_lenS;rfl)|(apply Go.Wk.Pu_lenMap;rfl;(focus repeat' constructor))|(apply Go.Wk.Pu_eqlE;rfl;rfl)|(apply Go.Wk.Pu_neqE;rfl;rfl))):Pu P n wr fr O op ty v:=h
theorem QyA {o:Oper}{v:Value}(h:Qy P n wr ops fr O o v:=by(first|(apply Go.Wk.Qy_y;rfl;exact Go.Wk.PuA)|(apply Go.Wk.Qy_n;rfl))):Qy P n wr ops fr O o v:=h
theorem QFA {V:List Qp}(h:QF P n wr ops fr O V:=by repeat (first|exact Go.Wk.QF.nil|(apply Go.Wk.QF.mk;rfl;rfl;decide +kernel;exact Go.Wk.QyA))):QF P n wr ops fr O V:=h
theorem QyI {G:Prop}(h:G:=by first|(apply Go.Wk.Qy_y;rfl;exact Go.Wk.PuI)|exact Go.Wk.QyA):G:=h
theorem QFI {G:Prop}(h:G:=by repeat (first|exact Go.Wk.QF.nil|(apply Go.Wk.QF.mk;rfl;rfl;decide +kernel;exact Go.Wk.QyI))):G:=h
theorem walk1 {G G':Prop}(k:G')(h:Hold G'->G:=by intro k;(first|(apply Go.Wk.RL_pu;rfl;exact Go.Wk.PuA)|(apply Go.Wk.RL_st0;refine Go.Wk.stA ?_)|apply Go.Wk.W_seq|apply Go.Wk.W_region|apply Go.Wk.RL_nil|apply Go.Wk.thenQ_n|apply Go.Wk.W_block|apply Go.Wk.W_skip|apply Go.Wk.W_ret|apply Go.Wk.W_exit|apply Go.Wk.thenQ_r|apply Go.Wk.thenQ_e|apply Go.Wk.blockQ_n|apply Go.Wk.blockQ_r|apply Go.Wk.blockQ_hit|(apply Go.Wk.blockQ_miss;rfl)|(apply Go.Wk.W_true;rfl)|(apply Go.Wk.W_false;rfl)|(apply Go.Wk.RL_yes;rfl;rfl;rfl)|(apply Go.Wk.RL_no;rfl;rfl;rfl;rfl;rfl)|(apply Go.Wk.W_draw;rfl;decide +kernel)|apply Go.Wk.RD_done|(apply Go.Wk.RD_Q;rfl;rfl;decide +kernel;rfl;rfl;exact Go.Wk.QyA)|(apply Go.Wk.RD_N;rfl;rfl;decide +kernel;rfl;rfl;rfl)|(apply Go.Wk.RD_A;rfl;rfl;decide +kernel;rfl;rfl;first|exact Go.Wk.Ay_alloc|exact Go.Wk.Ay_buildSlice0|(apply Go.Wk.Ay_buildSliceC;rfl;rfl;rfl;rfl;exact Go.Wk.NfA)|(apply Go.Wk.Ay_buildSliceNf;rfl;rfl;rfl;exact Go.Wk.NfA)));exact k.out):G:=h ⟨k⟩
theorem walk {G G':Prop}(k:G')(h:Hold G'->G:=by intro k;refine Go.Wk.walk1 ?_;(repeat refine Go.Wk.walk1 ?_);exact k.out):G:=h ⟨k⟩
theorem walk0a {G G':Prop}(k:G')(h:Hold G'->G:=by intro k;(first|(apply Go.Wk.RL_pu;rfl;exact Go.Wk.PuA)|(apply Go.Wk.RL_st0;refine Go.Wk.stA ?_)|apply Go.Wk.W_seq|apply Go.Wk.W_region|apply Go.Wk.RL_nil|apply Go.Wk.thenQ_n|apply Go.Wk.W_block|apply Go.Wk.W_skip|apply Go.Wk.W_ret|apply Go.Wk.W_exit|apply Go.Wk.thenQ_r|apply Go.Wk.thenQ_e|apply Go.Wk.blockQ_n|apply Go.Wk.blockQ_r|apply Go.Wk.blockQ_hit|(apply Go.Wk.blockQ_miss;rfl)|(apply Go.Wk.W_true;rfl)|(apply Go.Wk.W_false;rfl)|(apply Go.Wk.RL_yes;rfl;rfl;rfl)|(apply Go.Wk.RL_no;rfl;rfl;rfl;rfl;rfl)|apply Go.Wk.RD_done|(apply Go.Wk.RD_Q;rfl;rfl;decide +kernel;rfl;rfl;exact Go.Wk.QyA)|(apply Go.Wk.RD_N;rfl;rfl;decide +kernel;rfl;rfl;rfl)|(apply Go.Wk.RD_A;rfl;rfl;decide +kernel;rfl;rfl;first|exact Go.Wk.Ay_alloc|exact Go.Wk.Ay_buildSlice0|(apply Go.Wk.Ay_buildSliceC;rfl;rfl;rfl;rfl;exact Go.Wk.NfA)|(apply Go.Wk.Ay_buildSliceNf;rfl;rfl;rfl;exact Go.Wk.NfA)));exact k.out):G:=h ⟨k⟩
theorem ZzA {G G':Prop}(k:G')(h:Hold G'->G:=by intro k;refine Go.Wk.walk0a ?_;(repeat refine Go.Wk.walk0a ?_);exact k.out):G:=h ⟨k⟩
theorem EndsA {A B C:List It}(h:Ends A B C:=by repeat (first|exact Go.Wk.Ends.nil|apply Go.Wk.Ends.cons|exact Go.Wk.Ends.app)):Ends A B C:=h
theorem RD_Lw {todo:List (Nat × Oper)}{V V':List Qp}{Al:List Ap}{i:Nat}{o:Oper}(a:∀ F,Stp P n wr fr (O++F) o fun v O'=>∃ O'',Ends O' F O''/\QF P n wr ops (updF fr o.dst v) O'' V'/\RD P n wr ops todo V' Al K (updF fr o.dst v) O'')
  (hV:Filt ops i V V':=by repeat (first|exact Go.Wk.Filt.nil|(apply Go.Wk.Filt.drop;rfl)|(apply Go.Wk.Filt.dropT;rfl)|(apply Go.Wk.Filt.keep;rfl))) (hok:okL n ops fr ((i,o)::todo) todo o=true:=by rfl) (hal:alOk n fr o.dst Al=true:=by rfl):RD P n wr ops ((i,o)::todo) V Al K fr O:=RD_L hok hal hV a
theorem jn {G G':Prop}(k:G')(h:Hold G'->G:=by intro k;(first|(apply Go.Wk.RL_st0;exact k.out)|(apply Go.Wk.RL_st;rfl;exact k.out)|(refine Go.Wk.RD_Lw ?_;exact k.out))):G:=h ⟨k⟩
theorem js {G G':Prop}(k:G')(h:Hold G'->G:=by intro k;(first|(apply Go.Wk.RL_st0;exact k.out)|(apply Go.Wk.RL_st;rfl;exact k.out))):G:=h ⟨k⟩
theorem fin {G G':Prop}(k:G')(h:Hold G'->G:=by intro k;(first|exact⟨_,Go.Wk.EndsA,Go.Wk.QFA,k.out⟩|exact Go.Wk.RLid k.out|exact⟨_,Go.Wk.EndsA,Go.Wk.SubO.right _ _,k.out⟩|(refine⟨_,?_,?_,?_⟩;exact Go.Wk.EndsA;exact .refl _;exact k.out))):G:=h ⟨k⟩
theorem ZBA {todo todo':List (Nat × Oper)}{V V':List Qp}{Al A1:List Ap}{k:Ap}{i:Nat}{o:Oper}(c:∀ b,RD P n wr ops todo V A1 K ((k.d,k.val b)::fr) (k.it b::O))(a:∀ F,Stp P n wr fr (O++F) o fun v O'=>∃ O'',Ends O' F O''/\QF P n wr ops (updF fr o.dst v) O'' V'/\RD P n wr ops todo' V' Al K (updF fr o.dst v) O'')
  (hp:Ze7 ops todo Al todo=some ((i,o),todo'):=by rfl) (hks:ZdV ops todo [] Al=[(k,A1)]:=by rfl) (hV:Filt ops i V V':=by repeat (first|exact Go.Wk.Filt.nil|(apply Go.Wk.Filt.drop;rfl)|(apply Go.Wk.Filt.dropT;rfl)|(apply Go.Wk.Filt.keep;rfl))) (hok:okK n ops fr todo todo' o [k.i]=true:=by rfl) (hal:alOk n fr o.dst Al=true:=by rfl):RD P n wr ops todo V Al K fr O:=ZCr hp hks hok hal hV c a
theorem ZBz {todo todo':List (Nat × Oper)}{V V':List Qp}{Al A1 A2:List Ap}{k k2:Ap}{i:Nat}{o:Oper}(e:∀ b,RD P n wr ops todo V A1 K ((k.d,k.val b)::fr) (k.it b::O))(c:∀ b,RD P n wr ops todo V A2 K ((k2.d,k2.val b)::fr) (k2.it b::O))(a:∀ F,Stp P n wr fr (O++F) o fun v O'=>∃ O'',Ends O' F O''/\QF P n wr ops (updF fr o.dst v) O'' V'/\RD P n wr ops todo' V' Al K (updF fr o.dst v) O'')
  (hp:Ze7 ops todo Al todo=some ((i,o),todo'):=by rfl) (hks:ZdV ops todo [] Al=[(k,A1),(k2,A2)]:=by rfl) (hV:Filt ops i V V':=by repeat (first|exact Go.Wk.Filt.nil|(apply Go.Wk.Filt.drop;rfl)|(apply Go.Wk.Filt.dropT;rfl)|(apply Go.Wk.Filt.keep;rfl))) (hok:okK n ops fr todo todo' o [k.i,k2.i]=true:=by rfl) (hal:alOk n fr o.dst Al=true:=by rfl):RD P n wr ops todo V Al K fr O:=ZCq hp hks hok hal hV e c a
theorem Zdc {todo todo':List (Nat × Oper)}{V V':List Qp}{Al:List Ap}{i:Nat}{o:Oper}(a:∀ F,Stp P n wr fr (O++F) o fun v O'=>∃ O'',Ends O' F O''/\SubO O O''/\RD P n wr ops todo' V' Al K ((d,v)::fr) O'')(hp:Ze7 ops todo Al todo=some ((i,o),todo'):=by rfl)(hd:o.dst=some d:=by rfl)(hks:ZdV ops todo [] Al=[]:=by rfl)(hV:Filt ops i V V':=by repeat (first|exact Go.Wk.Filt.nil|(apply Go.Wk.Filt.drop;rfl)|(apply Go.Wk.Filt.dropT;rfl)|(apply Go.Wk.Filt.keep;rfl)))(hok:okG n ops fr todo todo' o d Al []=true:=by rfl):RD P n wr ops todo V Al K fr O:=ZBD hp hd hks hok hV a
theorem RD_G0c {todo todo':List (Nat × Oper)}{V V':List Qp}{Al:List Ap}{i:Nat}{dst:Option Tmp}{gx:Operand}{xs:Array Operand}{ts:Array TypeId}{ty:TypeId}{pos:String}{af:Array Edge}{g:Option (Nat × Bool)}(a:∀ F,Stp P n wr fr (O++F) ⟨dst,.call ⟨.value gx,xs,ts⟩,ty,pos,af,g⟩ fun v O'=>∃ O'',Ends O' F O''/\SubO O O''/\RD P n wr ops todo' V' Al K ((d,v)::fr) O'')(hp:Ze7 ops todo Al todo=some ((i,⟨dst,.call ⟨.value gx,xs,ts⟩,ty,pos,af,g⟩),todo'):=by rfl)(hd:dst=some d:=by rfl)(hks:ZdV ops todo [] Al=[]:=by rfl)(hV:Filt ops i V V':=by repeat (first|exact Go.Wk.Filt.nil|(apply Go.Wk.Filt.drop;rfl)|(apply Go.Wk.Filt.dropT;rfl)|(apply Go.Wk.Filt.keep;rfl)))(hok:okG n ops fr todo todo' ⟨dst,.call ⟨.value gx,xs,ts⟩,ty,pos,af,g⟩ d Al []=true:=by rfl):RD P n wr ops todo V Al K fr O:=ZBD hp hd hks hok hV a
theorem jg {G G':Prop}(k:G')(h:Hold G'->G:=by intro k;(first|(apply Go.Wk.RL_st0;exact k.out)|(apply Go.Wk.RL_st;rfl;exact k.out)|(refine Go.Wk.RD_Lw ?_;exact k.out)|(refine Go.Wk.RD_G0c ?_;exact k.out))):G:=h ⟨k⟩
theorem ZBC {todo todo':List (Nat × Oper)}{V V':List Qp}{Al A1:List Ap}{k:Ap}{i:Nat}{o:Oper}(c:∀ b,RD P n wr ops todo V A1 K ((k.d,k.val b)::fr) (k.it b::O))(a:∀ F,Stp P n wr fr (O++F) o fun v O'=>∃ O'',Ends O' F O''/\SubO O O''/\RD P n wr ops todo' V' Al K ((d,v)::fr) O'')(hp:Ze7 ops todo Al todo=some ((i,o),todo'):=by rfl)(hd:o.dst=some d:=by rfl)(hks:ZdV ops todo [] Al=[(k,A1)]:=by rfl)(hV:Filt ops i V V':=by repeat (first|exact Go.Wk.Filt.nil|(apply Go.Wk.Filt.drop;rfl)|(apply Go.Wk.Filt.dropT;rfl)|(apply Go.Wk.Filt.keep;rfl)))(hok:okG n ops fr todo todo' o d Al [k.i]=true:=by rfl):RD P n wr ops todo V Al K fr O:=ZCu hp hd hks hok hV c a
theorem ZBB {todo todo':List (Nat × Oper)}{V V':List Qp}{Al A1 A2:List Ap}{k k2:Ap}{i:Nat}{o:Oper}(e:∀ b,RD P n wr ops todo V A1 K ((k.d,k.val b)::fr) (k.it b::O))(c:∀ b,RD P n wr ops todo V A2 K ((k2.d,k2.val b)::fr) (k2.it b::O))(a:∀ F,Stp P n wr fr (O++F) o fun v O'=>∃ O'',Ends O' F O''/\SubO O O''/\RD P n wr ops todo' V' Al K ((d,v)::fr) O'')(hp:Ze7 ops todo Al todo=some ((i,o),todo'):=by rfl)(hd:o.dst=some d:=by rfl)(hks:ZdV ops todo [] Al=[(k,A1),(k2,A2)]:=by rfl)(hV:Filt ops i V V':=by repeat (first|exact Go.Wk.Filt.nil|(apply Go.Wk.Filt.drop;rfl)|(apply Go.Wk.Filt.dropT;rfl)|(apply Go.Wk.Filt.keep;rfl)))(hok:okG n ops fr todo todo' o d Al [k.i,k2.i]=true:=by rfl):RD P n wr ops todo V Al K fr O:=ZCt hp hd hks hok hV e c a
end
end Go.Wk
namespace Go.Proofs.YtpipekfmecikmaaGreatDoor
open Go Go.Wk
instance : Ty Tryz.prog 2 1 false:={}
instance : ZeroT Tryz.prog 2 [.int .i64 0]:={}
instance : IntT Tryz.prog 2 .i64:={}
instance : Ty Tryz.prog 3 1 false:={}
instance : ZeroT Tryz.prog 3 [.int .i64 0]:={}
instance : ZeroV Tryz.prog 3 (.int .i64 0):={}
instance : Ty Tryz.prog 4 1 false:={}
instance : ZeroT Tryz.prog 4 [.bool false]:={}
instance : ZeroV Tryz.prog 4 (.bool false):={}
instance : BoolT Tryz.prog 4:={}
instance : Ty Tryz.prog 5 1 false:={}
instance : ZeroT Tryz.prog 5 [.int .u8 0]:={}
instance : IntT Tryz.prog 5 .u8:={}
instance : Ty Tryz.prog 9 1 false:={}
instance : ZeroT Tryz.prog 9 [.string ByteArray.empty]:={}
instance : StringT Tryz.prog 9:={}
instance : Ty Tryz.prog 22 1 false:={}
instance : ElemZ Tryz.prog 22 68 11 104:={}
instance : ZeroV Tryz.prog 22 (.slice none 0 0):={}
instance : ElemT Tryz.prog 22 68 11 104:={}
instance : Ty Tryz.prog 23 1 false:={}
instance : ElemZ Tryz.prog 23 71 2 40:={}
instance : ElemT Tryz.prog 23 71 2 40:={}
instance : Ty Tryz.prog 24 1 false:={}
instance : ElemZ Tryz.prog 24 77 2 32:={}
instance : ElemT Tryz.prog 24 77 2 32:={}
instance : Ty Tryz.prog 25 1 false:={}
instance : ElemZ Tryz.prog 25 9 1 16:={}
instance : ElemT Tryz.prog 25 9 1 16:={}
instance : Ty Tryz.prog 27 4 true:={}
instance : FieldAt Tryz.prog 27 0 0 1 false:={}
instance : FieldAt Tryz.prog 27 1 1 1 false:={}
instance : FieldAt Tryz.prog 27 2 2 1 false:={}
instance : FieldAt Tryz.prog 27 3 3 1 false:={}
instance : LayT Tryz.prog 27 [(0,1),(1,1),(2,1),(3,1)]:={}
instance : ZeroT Tryz.prog 27 [.slice none 0 0,.slice none 0 0,.slice none 0 0,.slice none 0 0]:={}
instance : Ty Tryz.prog 34 1 false:={}
instance : Ty Tryz.prog 42 3 true:={}
instance : LayT Tryz.prog 42 [(0,1),(1,1),(2,1)]:={}
instance : ZeroT Tryz.prog 42 [.int .i64 0,.bool false,.string ByteArray.empty]:={}
instance : Ty Tryz.prog 62 1 false:={}
instance : Ty Tryz.prog 64 3 true:={}
instance : FieldAt Tryz.prog 64 0 0 1 false:={}
instance : FieldAt Tryz.prog 64 1 1 1 false:={}
instance : FieldAt Tryz.prog 64 2 2 1 false:={}
instance : LayT Tryz.prog 64 [(0,1),(1,1),(2,1)]:={}
instance : ZeroT Tryz.prog 64 [.int .i64 0,.int .i64 0,.int .i64 0]:={}
instance : Ty Tryz.prog 66 2 true:={}
instance : FieldAt Tryz.prog 66 0 0 1 false:={}
instance : FieldAt Tryz.prog 66 1 1 1 false:={}
instance : LayT Tryz.prog 66 [(0,1),(1,1)]:={}
instance : ZeroT Tryz.prog 66 [.int .i64 0,.int .i64 0]:={}
instance : Ty Tryz.prog 68 11 true:={}
instance : FieldAt Tryz.prog 68 0 0 1 false:={}
instance : FieldAt Tryz.prog 68 1 1 1 false:={}
instance : FieldAt Tryz.prog 68 2 2 1 false:={}
instance : FieldAt Tryz.prog 68 3 3 1 false:={}
instance : FieldAt Tryz.prog 68 4 4 3 true:={}
instance : FieldAt Tryz.prog 68 5 7 2 true:={}
instance : FieldAt Tryz.prog 68 6 9 1 false:={}
instance : FieldAt Tryz.prog 68 7 10 1 false:={}
instance : LayT Tryz.prog 68 [(0,1),(1,1),(2,1),(3,1),(4,3),(7,2),(9,1),(10,1)]:={}
instance : ZeroT Tryz.prog 68 [.string ByteArray.empty,.int .i64 0,.int .i64 0,.int .i64 0,.int .i64 0,.int .i64 0,.int .i64 0,.int .i64 0,.int .i64 0,.int .i64 0,.string ByteArray.empty]:={}
instance : Ty Tryz.prog 69 1 false:={}
instance : ElemZ Tryz.prog 69 75 13 120:={}
instance : ElemT Tryz.prog 69 75 13 120:={}
instance : Ty Tryz.prog 71 2 true:={}
instance : FieldAt Tryz.prog 71 0 0 1 false:={}
instance : FieldAt Tryz.prog 71 1 1 1 false:={}
instance : LayT Tryz.prog 71 [(0,1),(1,1)]:={}
instance : ZeroT Tryz.prog 71 [.string ByteArray.empty,.slice none 0 0]:={}
instance : Ty Tryz.prog 73 8 true:={}
instance : FieldAt Tryz.prog 73 0 0 1 false:={}
instance : FieldAt Tryz.prog 73 1 1 1 false:={}
instance : FieldAt Tryz.prog 73 2 2 1 false:={}
instance : FieldAt Tryz.prog 73 3 3 3 true:={}
instance : FieldAt Tryz.prog 73 4 6 2 true:={}
instance : LayT Tryz.prog 73 [(0,1),(1,1),(2,1),(3,3),(6,2)]:={}
instance : ZeroT Tryz.prog 73 [.bool false,.int .i64 0,.int .i64 0,.int .i64 0,.int .i64 0,.int .i64 0,.int .i64 0,.int .i64 0]:={}
instance : Ty Tryz.prog 75 13 true:={}
instance : FieldAt Tryz.prog 75 0 0 1 false:={}
instance : FieldAt Tryz.prog 75 1 1 1 false:={}
instance : FieldAt Tryz.prog 75 2 2 1 false:={}
instance : FieldAt Tryz.prog 75 3 3 1 false:={}
instance : FieldAt Tryz.prog 75 4 4 1 false:={}
instance : FieldAt Tryz.prog 75 5 5 8 true:={}
instance : LayT Tryz.prog 75 [(0,1),(1,1),(2,1),(3,1),(4,1),(5,8)]:={}
instance : ZeroT Tryz.prog 75 [.int .i64 0,.int .i64 0,.int .i64 0,.string ByteArray.empty,.string ByteArray.empty,.bool false,.int .i64 0,.int .i64 0,.int .i64 0,.int .i64 0,.int .i64 0,.int .i64 0,.int .i64 0]:={}
instance : Ty Tryz.prog 77 2 true:={}
instance : FieldAt Tryz.prog 77 0 0 1 false:={}
instance : FieldAt Tryz.prog 77 1 1 1 false:={}
instance : ZeroT Tryz.prog 77 [.string ByteArray.empty,.string ByteArray.empty]:={}
instance : Ty Tryz.prog 91 3 true:={}
instance : FieldAt Tryz.prog 91 0 0 1 false:={}
instance : FieldAt Tryz.prog 91 1 1 1 false:={}
instance : FieldAt Tryz.prog 91 2 2 1 false:={}
instance : LayT Tryz.prog 91 [(0,1),(1,1),(2,1)]:={}
instance : ZeroT Tryz.prog 91 [.int .i64 0,.int .i64 0,.int .i64 0]:={}
instance : ElemZ Tryz.prog 105 109 3 24:={}
instance : ElemT Tryz.prog 105 109 3 24:={}
instance : Ty Tryz.prog 109 3 true:={}
instance : FieldAt Tryz.prog 109 0 0 1 false:={}
instance : FieldAt Tryz.prog 109 1 1 1 false:={}
instance : FieldAt Tryz.prog 109 2 2 1 false:={}
instance : LayT Tryz.prog 109 [(0,1),(1,1),(2,1)]:={}
instance : ZeroT Tryz.prog 109 [.int .i64 0,.int .i64 0,.int .i64 0]:={}
instance : Ty Tryz.prog 138 3 true:={}
instance : FieldAt Tryz.prog 138 2 2 1 false:={}
instance : LayT Tryz.prog 138 [(0,1),(1,1),(2,1)]:={}
instance : ZeroT Tryz.prog 138 [.int .i64 0,.int .i64 0,.int .i64 0]:={}
instance : Ty Tryz.prog 155 2 true:={}
instance : FieldAt Tryz.prog 155 0 0 1 false:={}
instance : FieldAt Tryz.prog 155 1 1 1 false:={}
instance : LayT Tryz.prog 155 [(0,1),(1,1)]:={}
instance : ZeroT Tryz.prog 155 [.int .i64 0,.string ByteArray.empty]:={}
instance : Ty Tryz.prog 158 1 false:={}
instance : ArrT Tryz.prog 159 3 158 1 false:={}
instance : Ty Tryz.prog 169 1 false:={}
instance : Ty Tryz.prog 171 3 true:={}
instance : FieldAt Tryz.prog 171 0 0 1 false:={}
instance : FieldAt Tryz.prog 171 1 1 1 false:={}
instance : FieldAt Tryz.prog 171 2 2 1 false:={}
instance : ZeroT Tryz.prog 171 [.bool false,.bool false,.nilFunc]:={}
instance : ArrT Tryz.prog 172 5 171 3 true:={}
instance : Ty Tryz.prog 174 4 true:={}
instance : FieldAt Tryz.prog 174 0 0 4 true:={}
instance : LayT Tryz.prog 174 [(0,4)]:={}
instance : ZeroT Tryz.prog 174 [.slice none 0 0,.slice none 0 0,.slice none 0 0,.slice none 0 0]:={}
instance : Ty Tryz.prog 175 1 false:={}
instance : ElemZ Tryz.prog 176 175 1 8:={}
instance : ElemT Tryz.prog 176 175 1 8:={}
instance : Ty Tryz.prog 193 1 false:={}
instance : MapT Tryz.prog 193 9 22:={}
instance : Ty Tryz.prog 195 5 true:={}
instance : FieldAt Tryz.prog 195 0 0 4 true:={}
instance : FieldAt Tryz.prog 195 1 4 1 false:={}
instance : LayT Tryz.prog 195 [(0,4),(4,1)]:={}
instance : ZeroT Tryz.prog 195 [.slice none 0 0,.slice none 0 0,.slice none 0 0,.slice none 0 0,.map none]:={}
instance : MapT Tryz.prog 207 9 3:={}
instance : ArrT Tryz.prog 209 12 2 1 false:={}
instance : ElemZ Tryz.prog 221 3 1 8:={}
instance : ElemT Tryz.prog 221 3 1 8:={}
instance : Ty Tryz.prog 238 3 true:={}
instance : ArrT Tryz.prog 238 3 2 1 false:={}
instance : ZeroT Tryz.prog 238 [.int .i64 0,.int .i64 0,.int .i64 0]:={}
instance : ElemZ Tryz.prog 239 5 1 1:={}
instance : ElemT Tryz.prog 239 5 1 1:={}
instance : ElemZ Tryz.prog 240 2 1 8:={}
instance : ElemT Tryz.prog 240 2 1 8:={}
instance : MapT Tryz.prog 245 9 4:={}
instance : Ty Tryz.prog 246 1 false:={}
instance : Ty Tryz.prog 248 2 true:={}
instance : FieldAt Tryz.prog 248 0 0 1 false:={}
instance : FieldAt Tryz.prog 248 1 1 1 false:={}
instance : ZeroT Tryz.prog 248 [.nilFunc,.int .i64 0]:={}
instance : Ty Tryz.prog 249 12 true:={}
instance : ArrT Tryz.prog 249 6 248 2 true:={}
instance : Ty Tryz.prog 252 1 false:={}
instance : ZeroT Tryz.prog 252 [.slice none 0 0]:={}
instance : ElemZ Tryz.prog 252 91 3 24:={}
instance : ElemT Tryz.prog 252 91 3 24:={}
instance : ElemZ Tryz.prog 259 155 2 24:={}
instance : ElemT Tryz.prog 259 155 2 24:={}
instance : MapT Tryz.prog 264 266 3:={}
instance : LayT Tryz.prog 266 [(0,1),(1,1)]:={}
instance : ZeroT Tryz.prog 266 [.int .i64 0,.string ByteArray.empty]:={}
instance : ElemZ Tryz.prog 269 252 1 24:={}
instance : ElemT Tryz.prog 269 252 1 24:={}
instance : ElemZ Tryz.prog 274 276 2 24:={}
instance : ElemT Tryz.prog 274 276 2 24:={}
instance : Ty Tryz.prog 276 2 true:={}
instance : LayT Tryz.prog 276 [(0,1),(1,1)]:={}
instance : ZeroT Tryz.prog 276 [.int .i64 0,.string ByteArray.empty]:={}
instance : Ty Tryz.prog 279 256 true:={}
instance : ArrT Tryz.prog 279 256 5 1 false:={}
instance : Ty Tryz.prog 286 1 false:={}
instance : IntT Tryz.prog 286 .u64:={}
instance : Body Tryz.prog 7:={}
instance : Body Tryz.prog 13:={}
instance : Body Tryz.prog 14:={}
instance : Body Tryz.prog 15:={}
instance : Body Tryz.prog 16:={}
instance : Body Tryz.prog 17:={}
instance : Body Tryz.prog 18:={}
instance : Body Tryz.prog 19:={}
instance : Body Tryz.prog 20:={}
instance : Body Tryz.prog 21:={}
instance : Body Tryz.prog 31:={}
instance : Body Tryz.prog 42:={}
instance : Body Tryz.prog 46:={}
instance : Body Tryz.prog 49:={}
instance : Body Tryz.prog 50:={}
instance : Body Tryz.prog 51:={}
instance : Body Tryz.prog 52:={}
instance : Body Tryz.prog 53:={}
instance : Body Tryz.prog 54:={}
instance : Body Tryz.prog 55:={}
instance : Body Tryz.prog 56:={}
instance : Body Tryz.prog 57:={}
instance : Body Tryz.prog 58:={}
instance : Body Tryz.prog 59:={}
instance : Body Tryz.prog 72:={}
instance : Body Tryz.prog 73:={}
instance : Body Tryz.prog 75:={}
instance : Body Tryz.prog 76:={}
instance : Body Tryz.prog 78:={}
instance : Body Tryz.prog 79:={}
instance : Body Tryz.prog 80:={}
instance : Body Tryz.prog 81:={}
instance : Body Tryz.prog 82:={}
instance : Body Tryz.prog 83:={}
instance : Body Tryz.prog 84:={}
instance : Body Tryz.prog 85:={}
instance : Body Tryz.prog 86:={}
instance : Body Tryz.prog 87:={}
instance : Body Tryz.prog 88:={}
instance : Body Tryz.prog 89:={}
instance : Body Tryz.prog 90:={}
instance : Body Tryz.prog 91:={}
instance : Body Tryz.prog 92:={}
instance : Body Tryz.prog 93:={}
instance : Body Tryz.prog 96:={}
instance : Body Tryz.prog 97:={}
instance : Body Tryz.prog 98:={}
instance : Body Tryz.prog 99:={}
instance : Body Tryz.prog 100:={}
instance : Body Tryz.prog 101:={}
instance : Body Tryz.prog 102:={}
instance : Body Tryz.prog 103:={}
instance : Body Tryz.prog 104:={}
instance : Body Tryz.prog 105:={}
instance : Body Tryz.prog 107:={}
instance : Body Tryz.prog 110:={}
instance : Body Tryz.prog 113:={}
instance : Body Tryz.prog 114:={}
instance : Body Tryz.prog 115:={}
instance : Body Tryz.prog 116:={}
instance : Body Tryz.prog 117:={}
instance : Body Tryz.prog 118:={}
instance : Body Tryz.prog 119:={}
instance : Body Tryz.prog 120:={}
instance : Body Tryz.prog 121:={}
instance : Body Tryz.prog 122:={}
instance : Body Tryz.prog 123:={}
instance : Body Tryz.prog 124:={}
instance : Body Tryz.prog 125:={}
instance : Body Tryz.prog 126:={}
instance : Body Tryz.prog 127:={}
instance : Body Tryz.prog 128:={}
instance : Body Tryz.prog 129:={}
instance : Body Tryz.prog 130:={}
instance : Body Tryz.prog 131:={}
instance : Body Tryz.prog 132:={}
instance : Body Tryz.prog 133:={}
instance : Body Tryz.prog 134:={}
instance : Body Tryz.prog 135:={}
instance : Body Tryz.prog 136:={}
instance : Body Tryz.prog 137:={}
instance : Body Tryz.prog 138:={}
instance : Body Tryz.prog 139:={}
instance : Body Tryz.prog 140:={}
instance : Body Tryz.prog 142:={}
instance : Body Tryz.prog 143:={}
instance : Body Tryz.prog 144:={}
instance : Body Tryz.prog 145:={}
instance : Body Tryz.prog 146:={}
instance : Body Tryz.prog 147:={}
instance : Body Tryz.prog 148:={}
instance : Body Tryz.prog 149:={}
instance : Body Tryz.prog 150:={}
instance : Body Tryz.prog 151:={}
instance : Body Tryz.prog 152:={}
instance : Body Tryz.prog 153:={}
instance : Body Tryz.prog 154:={}
instance : Body Tryz.prog 155:={}
instance : Body Tryz.prog 156:={}
instance : Body Tryz.prog 157:={}
instance : Body Tryz.prog 158:={}
instance : Body Tryz.prog 159:={}
instance : Body Tryz.prog 160:={}
instance : Body Tryz.prog 161:={}
instance : Body Tryz.prog 162:={}
instance : Body Tryz.prog 163:={}
instance : Body Tryz.prog 164:={}
instance : Body Tryz.prog 165:={}
instance : Body Tryz.prog 166:={}
instance : Body Tryz.prog 167:={}
instance : Body Tryz.prog 168:={}
instance : Body Tryz.prog 169:={}
instance : Body Tryz.prog 170:={}
instance : Body Tryz.prog 171:={}
instance : Body Tryz.prog 172:={}
instance : Body Tryz.prog 173:={}
instance : Body Tryz.prog 174:={}
instance : Body Tryz.prog 175:={}
instance : Body Tryz.prog 176:={}
instance : Body Tryz.prog 177:={}
instance : Body Tryz.prog 178:={}
instance : Body Tryz.prog 179:={}
instance : Body Tryz.prog 180:={}
instance : Body Tryz.prog 181:={}
instance : Body Tryz.prog 182:={}
instance : Body Tryz.prog 183:={}
instance : Body Tryz.prog 184:={}
instance : Body Tryz.prog 185:={}
instance : Body Tryz.prog 186:={}
instance : Body Tryz.prog 187:={}
instance : Body Tryz.prog 188:={}
instance : Body Tryz.prog 189:={}
instance : Body Tryz.prog 190:={}
instance : Body Tryz.prog 191:={}
instance : Body Tryz.prog 192:={}
instance : Body Tryz.prog 193:={}
instance : Body Tryz.prog 194:={}
instance : Body Tryz.prog 195:={}
instance : Body Tryz.prog 196:={}
instance : Body Tryz.prog 197:={}
instance : Body Tryz.prog 198:={}
instance : Body Tryz.prog 199:={}
instance : Body Tryz.prog 200:={}
instance : Body Tryz.prog 201:={}
instance : Body Tryz.prog 202:={}
instance : Body Tryz.prog 203:={}
instance : Body Tryz.prog 204:={}
instance : Body Tryz.prog 205:={}
instance : Body Tryz.prog 206:={}
instance : Body Tryz.prog 207:={}
instance : Body Tryz.prog 208:={}
instance : Body Tryz.prog 209:={}
instance : Body Tryz.prog 210:={}
instance : Body Tryz.prog 211:={}
instance : Body Tryz.prog 212:={}
instance : Body Tryz.prog 213:={}
instance : Body Tryz.prog 215:={}
instance : Body Tryz.prog 216:={}
instance : Body Tryz.prog 217:={}
instance : Body Tryz.prog 218:={}
instance : Body Tryz.prog 219:={}
instance : Body Tryz.prog 220:={}
instance : Body Tryz.prog 221:={}
instance : Body Tryz.prog 222:={}
instance : Body Tryz.prog 223:={}
instance : Body Tryz.prog 224:={}
instance : Body Tryz.prog 225:={}
instance : Body Tryz.prog 226:={}
instance : Body Tryz.prog 227:={}
instance : Body Tryz.prog 228:={}
instance : Body Tryz.prog 229:={}
instance : Body Tryz.prog 230:={}
instance : Body Tryz.prog 231:={}
instance : Body Tryz.prog 232:={}
instance : Body Tryz.prog 233:={}
instance : Body Tryz.prog 234:={}
instance : Body Tryz.prog 235:={}
instance : Body Tryz.prog 236:={}
instance : Body Tryz.prog 237:={}
instance : Body Tryz.prog 238:={}
instance : Body Tryz.prog 239:={}
instance : Body Tryz.prog 240:={}
instance : Body Tryz.prog 241:={}
instance : Body Tryz.prog 242:={}
instance : Body Tryz.prog 243:={}
instance : Body Tryz.prog 244:={}
instance : Body Tryz.prog 245:={}
instance : Body Tryz.prog 246:={}
instance : Body Tryz.prog 247:={}
instance : Body Tryz.prog 248:={}
instance : Body Tryz.prog 249:={}
instance : Body Tryz.prog 250:={}
instance : Body Tryz.prog 251:={}
instance : Body Tryz.prog 252:={}
instance : Body Tryz.prog 253:={}
instance : Body Tryz.prog 254:={}
instance : Body Tryz.prog 255:={}
instance : Body Tryz.prog 256:={}
instance : Body Tryz.prog 257:={}
instance : Body Tryz.prog 258:={}
instance : Body Tryz.prog 259:={}
instance : Body Tryz.prog 260:={}
instance : Body Tryz.prog 262:={}
instance : Body Tryz.prog 264:={}
instance : Body Tryz.prog 265:={}
instance : Body Tryz.prog 266:={}
instance : Body Tryz.prog 268:={}
instance : Body Tryz.prog 269:={}
instance : Body Tryz.prog 270:={}
instance : Body Tryz.prog 271:={}
instance : Body Tryz.prog 272:={}
instance : Body Tryz.prog 273:={}
instance : Body Tryz.prog 274:={}
instance : Body Tryz.prog 275:={}
instance : Body Tryz.prog 276:={}
instance : Body Tryz.prog 277:={}
instance : Body Tryz.prog 278:={}
instance : Body Tryz.prog 279:={}
instance : Body Tryz.prog 280:={}
instance : Body Tryz.prog 281:={}
instance : Body Tryz.prog 282:={}
instance : Body Tryz.prog 283:={}
instance : Body Tryz.prog 284:={}
instance : Body Tryz.prog 285:={}
instance : Body Tryz.prog 286:={}
instance : Body Tryz.prog 287:={}
instance : Body Tryz.prog 288:={}
instance : Body Tryz.prog 291:={}
instance : Body Tryz.prog 292:={}
instance : Body Tryz.prog 293:={}
instance : Body Tryz.prog 294:={}
instance : Body Tryz.prog 295:={}
instance : Body Tryz.prog 302:={}
instance : Body Tryz.prog 313:={}
instance : Body Tryz.prog 315:={}
instance : Body Tryz.prog 316:={}
instance : Body Tryz.prog 317:={}
instance : Body Tryz.prog 380:={}
instance : Body Tryz.prog 381:={}
instance : Body Tryz.prog 382:={}
instance : Body Tryz.prog 383:={}
instance : Body Tryz.prog 384:={}
instance : Body Tryz.prog 385:={}
instance : Body Tryz.prog 386:={}
instance : Body Tryz.prog 387:={}
instance : Body Tryz.prog 388:={}
instance : Body Tryz.prog 389:={}
instance : Body Tryz.prog 390:={}
instance : Body Tryz.prog 391:={}
instance : Body Tryz.prog 392:={}
instance : Body Tryz.prog 393:={}
instance : Body Tryz.prog 394:={}
instance : Body Tryz.prog 395:={}
instance : Body Tryz.prog 396:={}
instance : Body Tryz.prog 397:={}
instance : Body Tryz.prog 398:={}
instance : Body Tryz.prog 399:={}
open Go Go.RowKit Go.Wk
theorem Zh9 (w:World)(p:Prop)[Decidable p](b:Bool):(if p then Result.ok b w else Result.ok false w)=Result.ok (decide p&&b) w:=by
 by_cases h:p <;> simp[h]
instance : EqE Tryz.prog 68 DRule DRule.enc where
 h r s w:=by
  unfold DRule.enc
  simp[go_sem,Zcc]
  rcases r with⟨_,_,_,_,⟨_,_,_⟩,⟨_,_⟩,_,_⟩
  rcases s with⟨_,_,_,_,⟨_,_,_⟩,⟨_,_⟩,_,_⟩
  simp only[Zh9,Result.ok.injEq,and_true]
  rw[Bool.eq_iff_iff]
  simp[and_assoc]
 g:=by kernel_rfl
instance : EqE Tryz.prog 75 DEra DEra.enc where
 h r s w:=by
  unfold DEra.enc
  simp[go_sem,Zcc]
  rcases r with⟨_,_,_,_,_,⟨_,_,_,⟨_,_,_⟩,⟨_,_⟩⟩⟩
  rcases s with⟨_,_,_,_,_,⟨_,_,_,⟨_,_,_⟩,⟨_,_⟩⟩⟩
  simp only[Zh9,Result.ok.injEq,and_true]
  rw[Bool.eq_iff_iff]
  simp[and_assoc]
 g:=by kernel_rfl
instance : EqE Tryz.prog 77 DLink DLink.enc where
 h r s w:=by
  unfold DLink.enc
  simp[go_sem,Zcc]
  rcases r with⟨_,_⟩
  rcases s with⟨_,_⟩
  simp only[Zh9,Result.ok.injEq,and_true]
  rw[Bool.eq_iff_iff]
  simp[and_assoc]
 g:=by kernel_rfl
attribute [local irreducible] W RL Does Zat Zaj retQ Calls Pu Stp RD Qy Ay
theorem Zah {α:Type}{xs:List α}{k:Nat}(h:k<xs.length):xs.drop k=xs[k]::xs.drop (k+1):=List.drop_eq_getElem_cons h
theorem ZfX {α:Type}[DecidableEq α](x y:α)(xs a:List α):decide (x::xs=y::a)=(decide (x=y)&&decide (xs=a)):=by
 rw[Bool.eq_iff_iff];simp
theorem ZiR {α:Type}[DecidableEq α]{xs a:List α}{k:Nat}(b:xs.length<=k)(c:a.length<=k):decide (xs.drop k=a.drop k)=true:=by
 rw[List.drop_eq_nil_of_le b,List.drop_eq_nil_of_le c];simp
theorem ZiS {α:Type}[DecidableEq α]{xs a:List α}(h:xs.length≠a.length):decide (xs=a)=false:=by
 simp;rintro rfl;exact h rfl
theorem ZwY (x y:DZone):decide (x=y)=(decide (x.name=y.name)&&decide (x.eras=y.eras)):=by
 rw[Bool.eq_iff_iff];rcases x with⟨_,_⟩;rcases y with⟨_,_⟩;simp
theorem Zr2 (a b:DSource):decide (a=b)=(decide (a.rules=b.rules)&&(decide (a.links=b.links)&&(decide (a.shifts=b.shifts)&&decide (a.zones=b.zones)))):=by
 rw[Bool.eq_iff_iff];rcases a with⟨_,_,_,_⟩;rcases b with⟨_,_,_,_⟩;simp only[decide_eq_true_eq,DSource.mk.injEq,Bool.and_eq_true]
 constructor
 ·rintro⟨h1,h2,h3,h4⟩;exact⟨h1,h3,h4,h2⟩
 ·rintro⟨h1,h3,h4,h2⟩;exact⟨h1,h2,h3,h4⟩
theorem Zdh {G G':Prop}(k:G')(h:Hold G'->G:=by intro k9;(first|refine walk ?_|(refine jn ?_;(try intro F);(apply Zad;exact PuA);refine fin ?_));exact k9.out):G:=h ⟨k⟩
theorem ZkI {G G':Prop}(k:G')(h:Hold G'->G:=by intro k9;(first|(apply RL_pu;rfl;exact PuI)|(apply RD_Q;rfl;rfl;decide +kernel;rfl;rfl;exact QyI)|refine walk1 ?_|(refine jn ?_;(try intro F);(apply Zad;first|exact PuI|exact PuA);first|refine⟨_,EndsA,QFI,?_⟩|refine fin ?_));exact k9.out):G:=h ⟨k⟩
theorem Zpk {G:Prop}(h:G:=by(first|exact PuI|(apply Pu_indexAddr;rfl;rfl;omega;omega;(first|exact hna2|exact hnb2))|(apply Pu_loadON;rfl;(first|exact hca2|exact hcb2);rfl))):G:=h
theorem ZAA {G:Prop}(h:G:=by first|(apply Qy_y;rfl;exact Zpk)|exact QyA):G:=h
theorem Zq5 (A B:Option Addr)(H I:Nat)(x y:List DZone)(w:World)(J:RdZ w A x)(K:RdZ w B y)(N:x.length<=maxLen) :
  Does Tryz.prog 59 [.slice A x.length H,.slice B y.length I] w (fun v O=>v = .bool (decide (x=y))/\O=[]):=by
 unfold maxLen at N
 generalize hres:decide (x=y)=res
 refine Zaa Tryz.func59 rfl rfl rfl rfl ?_
 repeat refine Zdh ?_
 refine Zaf rfl (fun u=>?_) (fun u=>?_)
 ·repeat refine Zdh ?_
  exact ret_1 _ [] (.tmp rfl) .nil ⟨by rw[<- hres,ZiS];simp at u;omega,rfl⟩
 have E:x.length=y.length:=by simp at u;omega
 clear u
 repeat refine Zdh ?_
 refine Zai [(0,_),(1,_),(4,_)] _ (fun k:Nat=>[(5,.int .i64 k)]) (fun _=>[]) (fun k=>k<=x.length/\decide (x.drop k=y.drop k)=res) (fun k=>x.length - k) 0 ⟨rfl,rfl,rfl,rfl,trivial⟩ (.refl _) ⟨by omega,hres⟩ ?_
 rintro k ⟨T,t⟩
 repeat refine Zdh ?_
 refine Zaf rfl (fun r=>?_) (fun r=>?_)
 ·simp only[decide_eq_true_eq,Int.ofNat_lt]at r
  have s:k<y.length:=by omega
  obtain⟨hna,U,⟨Aa,Q,g,rfl⟩,hca⟩:=J k _ (List.getElem?_eq_getElem r)
  obtain⟨hnb,W,⟨Ab,R,z,rfl⟩,hcb⟩:=K k _ (List.getElem?_eq_getElem s)
  rw[Zah r,Zah s,ZfX,ZwY]at t
  generalize x[k]=p at *
  generalize y[k]=q at *
  have M:=g.le
  have D:=g.cap
  unfold maxLen at D
  repeat refine ZkI ?_
  refine Zlv 29 rfl (fun m=>?_) (fun m=>?_)
  ·repeat refine ZkI ?_
   exact ret_1 _ [] (.tmp rfl) .nil ⟨by simp at m;simp[<- t,m],rfl⟩
  simp only[Bool.not_eq_false',decide_eq_true_eq]at m
  repeat refine ZkI ?_
  refine Zaf rfl (fun d=>?_) (fun d=>?_)
  ·repeat refine Zdh ?_
   exact ret_1 _ [] (.tmp rfl) .nil ⟨by rw[<- t,ZiS (xs:=p.eras)];simp;simp at d;omega,rfl⟩
  have L:p.eras.length=q.eras.length:=by simp at d;omega
  clear d
  repeat refine Zdh ?_
  refine Zai [(0,_),(1,_),(4,_),(5,_)] _ (fun j:Nat=>[(6,.int .i64 j)]) (fun _=>[]) (fun j=>j<=p.eras.length/\(decide (p.eras.drop j=q.eras.drop j)&&decide (x.drop (k+1)=y.drop (k+1)))=res) (fun j=>p.eras.length - j) 0 ⟨rfl,rfl,rfl,rfl,rfl,trivial⟩ (.refl _) ⟨by omega,by rw[<- t,m];simp⟩ ?_
  rintro j ⟨S,e⟩
  repeat refine ZkI ?_
  refine Zaf rfl (fun c=>?_) (fun c=>?_)
  ·simp only[decide_eq_true_eq,Int.ofNat_lt]at c
   have f:j<q.eras.length:=by omega
   obtain⟨hna2,hca2⟩:=g.rd j _ (List.getElem?_eq_getElem c)
   obtain⟨hnb2,hcb2⟩:=z.rd j _ (List.getElem?_eq_getElem f)
   rw[Zah c,Zah f,ZfX]at e
   generalize p.eras[j]=e1 at *
   generalize q.eras[j]=e2 at *
   repeat (first|(apply RL_pu;rfl;exact Zpk)|(apply RD_Q;rfl;rfl;decide +kernel;rfl;rfl;exact ZAA)|refine walk1 ?_|(refine jn ?_;(try intro F);(apply Zad;first|exact Zpk|exact PuA);first|refine⟨_,EndsA,QFRead0,?_⟩|refine fin ?_))
   refine Zaf rfl (fun d=>?_) (fun d=>?_)
   ·repeat refine Zdh ?_
    exact ret_1 _ [] (.tmp rfl) .nil ⟨by simp at d;simp[<- e,d],rfl⟩
   repeat refine Zdh ?_
   simp at d
   exact⟨j+1,by omega,⟨by omega,by rw[<- e];simp[d]⟩,SFA,SOA⟩
  simp only[decide_eq_false_iff_not,Int.ofNat_lt]at c
  repeat refine Zdh ?_
  exact⟨k+1,by omega,⟨by omega,by rw[<- e,ZiR (xs:=p.eras) (by omega) (by omega)];simp⟩,SFA,SOA⟩
 simp only[decide_eq_false_iff_not,Int.ofNat_lt]at r
 repeat refine Zdh ?_
 exact ret_1 _ [] (.tmp rfl) .nil ⟨by rw[<- t,ZiR (by omega) (by omega)],rfl⟩
end Go.Proofs.YtpipekfmecikmaaGreatDoor
