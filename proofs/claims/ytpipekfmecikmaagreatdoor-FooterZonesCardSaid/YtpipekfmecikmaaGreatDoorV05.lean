/- Parts of the proof. -/
import Derived.Test.YtpipekfmecikmaaGreatDoorV04
import Derived.Test.YtpipekfmecikmaaGreatDoorProg
set_option maxHeartbeats 4000000
set_option linter.unusedVariables false
set_option linter.unusedSimpArgs false
namespace Go.Wk
open Go Go.RowKit
theorem Zkr {n:Int}:inR .i64 n↔-9223372036854775808<=n/\n<=9223372036854775807:=Iff.rfl
section
variable {P:Program}{n:Nat}{wr:World}{fr:Fr}{O:List It}{ty:TypeId}
theorem Pu_conv64 {t t':TypeId}{x:Operand}{kk:IntKind}{i:Int}{sz:Nat}{ag:Bool}[Ty P t sz ag][IntT P t' .i64](hx:ev fr x=some (.int kk i))(h : -9223372036854775808<=i/\i<=9223372036854775807):Pu P n wr fr O (.convert t t' x) ty (.int .i64 i):=by
 have:=Pu_convI (P:=P) (n:=n) (wr:=wr) (O:=O) (ty:=ty) (t:=t) (t':=t') hx
 rwa[Zcd h]at this
theorem Pu_remE {t t':TypeId}{x y:Operand}{kk:IntKind}{i j:Int}(hx:ev fr x=some (.int kk i))(hy:ev fr y=some (.int kk j))(h0:0<=i)(hj:0<j):Pu P n wr fr O (.binOp .rem t x y t') ty (.int kk (i % j)):=by
 have:=Pu_rem (P:=P) (n:=n) (wr:=wr) (O:=O) (ty:=ty) (t:=t) (t':=t') hx hy (by omega)
 rwa[Int.tmod_eq_emod_of_nonneg h0]at this
theorem ZrR {i j M:Int}(h0:0<=i)(h1:i<=M)(hj:0<j):0<=i / j/\i / j<=M:=by
 have h2:0<=i / j:=Int.ediv_nonneg h0 (by omega)
 have h3:i / j<=i:=Int.ediv_le_self _ h0
 omega
theorem Pu_quo8 {t t':TypeId}{x y:Operand}{i j:Int}(hx:ev fr x=some (.int .u8 i))(hy:ev fr y=some (.int .u8 j))(h0:0<=i)(h1:i<=255)(hj:0<j):Pu P n wr fr O (.binOp .quo t x y t') ty (.int .u8 (i / j)):=by
 have:=Pu_quo (P:=P) (n:=n) (wr:=wr) (O:=O) (ty:=ty) (t:=t) (t':=t') hx hy (by omega)
 have hq:=ZrR h0 h1 hj
 rwa[Int.tdiv_eq_ediv_of_nonneg h0,show IntKind.u8.wrap (i / j)=i / j from by simp[IntKind.wrap,IntKind.signed,IntKind.bits];omega]at this
theorem Pu_quo16 {t t':TypeId}{x y:Operand}{i j:Int}(hx:ev fr x=some (.int .u16 i))(hy:ev fr y=some (.int .u16 j))(h0:0<=i)(h1:i<=65535)(hj:0<j):Pu P n wr fr O (.binOp .quo t x y t') ty (.int .u16 (i / j)):=by
 have:=Pu_quo (P:=P) (n:=n) (wr:=wr) (O:=O) (ty:=ty) (t:=t) (t':=t') hx hy (by omega)
 have hq:=ZrR h0 h1 hj
 rwa[Int.tdiv_eq_ediv_of_nonneg h0,show IntKind.u16.wrap (i / j)=i / j from by simp[IntKind.wrap,IntKind.signed,IntKind.bits];omega]at this
theorem Pu_quo64 {t t':TypeId}{x y:Operand}{i j:Int}(hx:ev fr x=some (.int .i64 i))(hy:ev fr y=some (.int .i64 j))(h0:0<=i)(h1:i<=9223372036854775807)(hj:0<j):Pu P n wr fr O (.binOp .quo t x y t') ty (.int .i64 (i / j)):=by
 have:=Pu_quo (P:=P) (n:=n) (wr:=wr) (O:=O) (ty:=ty) (t:=t) (t':=t') hx hy (by omega)
 have hq:=ZrR h0 h1 hj
 rwa[Int.tdiv_eq_ediv_of_nonneg h0,Zcd (by omega)]at this
theorem sliceZ_len (len sz:Nat)(z:List Value):(Zcf len sz z).length=len*sz:=by simp[Zcf]
def Zhr:List Value->List ByteArray
 | []=>[]
 | .string s::l=>s::Zhr l
 | _::l=>Zhr l
theorem Pu_loadLit {t sz b j bt:Nat}{x:Operand}{cs:List Value}{R:List It}[Ty P t sz false](hx:ev fr x=some (.pointer (some ((adr (some ⟨b,0,none⟩)).add (j*1)))))(hp:Pick (.blk b cs bt) O R)(hcs:(Zhr cs).map Value.string=cs)(hj:j<cs.length) :
  Pu P n wr fr O (.load t x) ty (.string ((Zhr cs).getD j ByteArray.empty)) :=
 Zhc hx fun w _ hO=>by
  have hl:j<(Zhr cs).length:=by rw[<- hcs]at hj;simpa using hj
  have hc:cs[j]?=some (.string ((Zhr cs).getD j ByteArray.empty)):=by
   generalize Zhr cs=L at hcs hl
   subst hcs
   simp[hl]
  rw[show(adr (some (⟨b,0,none⟩:Addr))).add (j*1)=⟨b,0+j,none⟩ from by rw[Nat.mul_one];exact ZbV b 0 j,Zcy (hO.of hp),Nat.zero_add,hc]
end
inductive Nf:List Value->List Value->Prop
 | nil:Nf [] []
 | cons {x:Value} {l l':List Value}:Nf l l'->Nf (x::l) (x::l')
theorem Nf.eq {l l':List Value}(h:Nf l l'):l=l':=by
 induction h with
 | nil=>rfl
 | cons _ ih=>rw[ih]
inductive SetAt:List Value->Nat->Value->List Value->Prop
 | here {x v:Value} {l:List Value}:SetAt (x::l) 0 v (v::l)
 | there {x v:Value} {j:Nat} {l l':List Value}:SetAt l j v l'->SetAt (x::l) (j+1) v (x::l')
theorem SetAt.eq {l l':List Value}{j:Nat}{v:Value}(h:SetAt l j v l'):l.set j v=l':=by
 induction h with
 | here=>rfl
 | there _ ih=>rw[List.set_cons_succ,ih]
inductive Lay:List Value->Nat->List Value->List Value->Prop
 | nil {cs:List Value} {j:Nat}:Lay cs j [] cs
 | cons {cs cs1 cs2 vs:List Value} {j:Nat} {v:Value}:SetAt cs j v cs1->Lay cs1 (j+1) vs cs2->Lay cs j (v::vs) cs2
theorem Lay.eq {cs cs' vs:List Value}{j:Nat}(h:Lay cs j vs cs'):lay cs j vs=cs':=by
 induction h with
 | nil=>rfl
 | cons h _ ih=>rw[lay,h.eq,ih]
section
variable {P:Program}{n:Nat}{wr:World}{ops:Array Oper}{fr:Fr}{O:List It}{ty:TypeId}{pos:String}{af:Array Edge}{dst:Option Tmp}{g:Option (Nat × Bool)}{Kp:Value->List It->Prop}
theorem Pu_fieldAddr0 {s f off sz b:Nat}{ag:Bool}{x:Operand}[FieldAt P s f off sz ag](hx:ev fr x=some (.pointer (some ⟨b,0,none⟩))):Pu P n wr fr O (.fieldAddr s x f) ty (.pointer (some ⟨b,off,none⟩)):=by
 have h:=Pu_fieldAddr (P:=P) (n:=n) (wr:=wr) (O:=O) (ty:=ty) (s:=s) (f:=f) hx
 rwa[ZbV,Nat.zero_add]at h
theorem Pu_loadNf {t sz b j:Nat}{x:Operand}{cs vs:List Value}{bt:TypeId}{R:List It}[Ty P t sz true](hx:ev fr x=some (.pointer (some ⟨b,j,none⟩)))(hp:Pick (.blk b cs bt) O R)(hv:Nf ((cs.drop j).take sz) vs)(hl:vs.length=sz):Pu P n wr fr O (.load t x) ty (.agg vs.toArray):=Zmt hx hp hv.eq hl
theorem Pu_fieldNf {s f off sz:Nat}{x:Operand}{cs vs:List Value}[FieldAt P s f off sz true](hx:ev fr x=some (.agg cs.toArray))(hv:Nf ((cs.drop off).take sz) vs):Pu P n wr fr O (.field s x f) ty (.agg vs.toArray):=ZtC hx hv.eq
theorem Pu_buildNf {t:TypeId}{ps:List (Nat × Operand)}{vs:List (Nat × Value)}{z cs cs':List Value}{ls:List (Nat × Nat)}[ZeroT P t z][LayT P t ls](hx:evpO fr ps=some vs)(hb:bld ls z vs=some cs)(hn:Nf cs cs'):Pu P n wr fr O (.build t ps.toArray) ty (.agg cs'.toArray):=by
 have h:=ZvR (P:=P) (n:=n) (wr:=wr) (O:=O) (ty:=ty) (t:=t) hx hb
 rwa[hn.eq]at h
theorem Stp_storeNf {t sz b j:Nat}{ag:Bool}{x y:Operand}{cs:List Value}{bt:TypeId}{v:Value}{vs cs':List Value}{O':List It}[Ty P t sz ag](hx:ev fr x=some (.pointer (some ⟨b,j,none⟩)))(hy:ev fr y=some v)
  (hu:Upd O (.blk b cs bt) (.blk b cs' bt) O') (hvs:Nf v.cells.toList vs) (hl:vs.length=sz) (h1:vs.all Value.oneCell'=true) (hj:Nat.ble (j+sz) cs.length=true) (hc:Lay cs j vs cs')
  (k:Kp undef O'):Stp P n wr fr O ⟨dst,.store t x y,ty,pos,af,g⟩ Kp:=Zgj hx hy hu hvs.eq hl h1 hj hc.eq k
theorem Stp_boxNf {t:TypeId}{x:Operand}{v:Value}{cs:List Value}(hx:ev fr x=some v)(hn:Nf v.cells.toList cs)(k:∀ b,Kp (.pointer (some ⟨b,0,none⟩)) (.blk b cs t::O)):Stp P n wr fr O ⟨dst,.box t x,ty,pos,af,g⟩ Kp:=ZyO hx (by rw[hn.eq];exact k)
theorem Stp_buildSliceNf {t e sz bytes len:Nat}{z:List Value}{ps:List (Nat × Operand)}{vs:List (Nat × Value)}{cs cs':List Value}[ElemZ P t e sz bytes][ZeroT P e z](hx:evpO fr ps=some vs)(hlen:Nat.ble (len*sz) 16777216=true)
  (hb:bld (ZdT len sz) (Zcf len sz z) vs=some cs) (hn:Nf cs cs') (kk:∀ b,Kp (.slice (some ⟨b,0,none⟩) len len) (.blk b cs' e::O)):Stp P n wr fr O ⟨dst,.buildSlice t len ps.toArray,ty,pos,af,g⟩ Kp:=Ze4 hx hlen hb (by rw[hn.eq];exact kk)
theorem Ay_buildSliceNf {t e sz bytes len:Nat}{z:List Value}{ps:List (Nat × Operand)}{vs:List (Nat × Value)}{cs cs':List Value}{d i dd:Nat}[ElemZ P t e sz bytes][ZeroT P e z](hx:evpO fr ps=some vs)(hlen:Nat.ble (len*sz) 16777216=true)
  (hb:bld (ZdT len sz) (Zcf len sz z) vs=some cs) (hn:Nf cs cs'):Ay P n wr ops fr ⟨some d,.buildSlice t len ps.toArray,ty,pos,af,none⟩ ⟨i,dd,fun b => .slice (some ⟨b,0,none⟩) len len,cs',e,fun b => .blk b cs' e⟩:=by
 have h:=ZfS (P:=P) (n:=n) (wr:=wr) (ops:=ops) (fr:=fr) (ty:=ty) (pos:=pos) (af:=af) (t:=t) (d:=d) (i:=i) (dd:=dd) hx hlen hb
 rwa[hn.eq]at h
def ZqJ (sz:Nat):Nat->List (Nat × Value)->Bool
 | _,[]=>true
 | i,(k,v)::r=>Nat.beq k i&&Nat.beq v.cells.toList.length sz&&ZqJ sz (i+1) r
def catC:List (Nat × Value)->List Value
 | []=>[]
 | (_,v)::r=>v.cells.toList++catC r
theorem Zsk:∀ (vs pre old post:List Value),old.length=vs.length->lay (pre++(old++post)) pre.length vs=pre++(vs++post)
 | [],pre,old,post,h=>by
  have:old=[]:=List.eq_nil_of_length_eq_zero (by simpa using h)
  simp[lay,this]
 | v::r,pre,[],post,h=>by simp at h
 | v::r,pre,o::old,post,h=>by
  have ih:=Zsk r (pre++[v]) old post (by simpa using h)
  have hs:(pre++(o::old++post)).set pre.length v=(pre++[v])++(old++post):=by simp
  rw[lay,hs]
  simpa using ih
theorem ZsT (sz len:Nat):∀ (vs:List (Nat × Value)) (i:Nat) (pre rest:List Value),ZqJ sz i vs=true->i+vs.length=len->pre.length=i*sz->rest.length=vs.length*sz->bld (ZdT len sz) (pre++rest) vs=some (pre++catC vs)
 | [],i,pre,rest,_,_,_,hr=>by
  have:rest=[]:=List.eq_nil_of_length_eq_zero (by simpa using hr)
  simp[bld,catC,this]
 | (k,v)::r,i,pre,rest,ho,hl,hp,hr=>by
  simp only[ZqJ,Bool.and_eq_true]at ho
  obtain⟨⟨h1,h2⟩,h3⟩:=ho
  have h1:=Nat.eq_of_beq_eq_true h1
  have h2:=Nat.eq_of_beq_eq_true h2
  subst h1
  simp only[List.length_cons]at hl hr
  have hm:(r.length+1)*sz=r.length*sz+sz:=Nat.succ_mul _ _
  have hk:(ZdT len sz)[k]?=some (k*sz,sz):=by
   unfold ZdT
   rw[List.getElem?_map,List.getElem?_range (by omega)]
   rfl
  have ih:=ZsT sz len r (k+1) (pre++v.cells.toList) (rest.drop sz) h3 (by omega) (by rw[List.length_append,hp,h2,Nat.succ_mul]) (by rw[List.length_drop,hr];omega)
  have hrest:rest=rest.take sz++rest.drop sz:=(List.take_append_drop sz rest).symm
  have hlay:lay (pre++rest) (k*sz) v.cells.toList=(pre++v.cells.toList)++rest.drop sz:=by
   rw[<- hp]
   conv=>lhs;rw[hrest]
   rw[Zsk _ _ _ _ (by rw[List.length_take,h2,hr];omega)]
   simp
  simp only[bld,hk]
  have hb:(Nat.beq v.cells.toList.length sz&&Nat.ble (k*sz+sz) (pre++rest).length)=true:=by
   rw[Bool.and_eq_true]
   exact⟨by rw[h2];exact Nat.beq_refl sz,Nat.ble_eq_true_of_le (by rw[List.length_append,hp,hr];omega)⟩
  rw[hb,hlay]
  simp only[cond_true,ih,catC]
  rw[List.append_assoc]
theorem ZsU {sz len:Nat}{z:List Value}{vs:List (Nat × Value)}(h1:ZqJ sz 0 vs=true)(h2:Nat.beq vs.length len=true):bld (ZdT len sz) (Zcf len sz z) vs=some (catC vs):=by
 have h2:=Nat.eq_of_beq_eq_true h2
 have:=ZsT sz len vs 0 [] (Zcf len sz z) h1 (by omega) (by simp) (by simp[Zcf,h2])
 simpa using this
theorem Stp_buildSliceC {t e sz bytes len:Nat}{z:List Value}{ps:List (Nat × Operand)}{vs:List (Nat × Value)}{cs':List Value}[ElemZ P t e sz bytes][ZeroT P e z](hx:evpO fr ps=some vs)(hlen:Nat.ble (len*sz) 16777216=true)
  (h1:ZqJ sz 0 vs=true) (h2:Nat.beq vs.length len=true) (hn:Nf (catC vs) cs') (kk:∀ b,Kp (.slice (some ⟨b,0,none⟩) len len) (.blk b cs' e::O)):Stp P n wr fr O ⟨dst,.buildSlice t len ps.toArray,ty,pos,af,g⟩ Kp:=Ze4 hx hlen (ZsU h1 h2) (by rw[hn.eq];exact kk)
theorem Ay_buildSliceC {t e sz bytes len:Nat}{z:List Value}{ps:List (Nat × Operand)}{vs:List (Nat × Value)}{cs':List Value}{d i dd:Nat}[ElemZ P t e sz bytes][ZeroT P e z](hx:evpO fr ps=some vs)(hlen:Nat.ble (len*sz) 16777216=true)
  (h1:ZqJ sz 0 vs=true) (h2:Nat.beq vs.length len=true) (hn:Nf (catC vs) cs'):Ay P n wr ops fr ⟨some d,.buildSlice t len ps.toArray,ty,pos,af,none⟩ ⟨i,dd,fun b => .slice (some ⟨b,0,none⟩) len len,cs',e,fun b => .blk b cs' e⟩:=by
 have h:=ZfS (P:=P) (n:=n) (wr:=wr) (ops:=ops) (fr:=fr) (ty:=ty) (pos:=pos) (af:=af) (t:=t) (d:=d) (i:=i) (dd:=dd) hx hlen (ZsU h1 h2)
 rwa[hn.eq]at h
end
structure Hold (p:Prop):Prop where
 out:p
theorem NfA {l l':List Value}(h:Nf l l':=by repeat (first|exact Go.Wk.Nf.nil|apply Go.Wk.Nf.cons)):Nf l l':=h
theorem SFA {a b:Fr}(h:Sub a b:=by repeat (first|exact trivial|refine⟨rfl,?_⟩)):Sub a b:=h
theorem SOA {a b:List It}(h:SubO a b:=by first|exact .refl _|(repeat (first|exact Go.Wk.SubO.nil|(apply Go.Wk.SubO.cons;focus repeat' constructor)))):SubO a b:=h
theorem STA {a b:List It}(h:SubO a b:=by repeat (first|exact Go.Wk.SubO.nil|(apply Go.Wk.SubO.cons;(focus repeat' constructor))|exact .refl _|apply Go.Wk.SubO.drop)):SubO a b:=h
theorem stA {G G':Prop}(k:G')(h:Hold G'->G:=by intro k;(first|(apply Go.Wk.Stp_storeNf;rfl;rfl;(focus repeat' constructor);exact Go.Wk.NfA;rfl;rfl;rfl;(focus repeat' constructor))|(apply Go.Wk.Stp_mapUpdate;rfl;rfl;rfl;(focus repeat' constructor)));exact k.out):G:=h ⟨k⟩
theorem OA {p:Prop}(h:p:=by first|omega|(dsimp only;omega)):p:=h
section
variable {P:Program}{n:Nat}{wr:World}{fr:Fr}{O:List It}{ty:TypeId}{pos:String}{af:Array Edge}{f:FuncId}{xs:List Operand}{ts:Array TypeId}{us vs cs:List Value}{dst:Option Tmp}{g:Option (Nat × Bool)}{x:Value}{gx:Operand}{Kp:Value->List It->Prop}[Body P f]
theorem ZaM (h:∀ w,Bel wr.heap.size wr w->ZaA wr.heap.size O w->Does P f vs w (fun v O=>v=x/\O=[]))(k:Kp x ([]++O))(hx:evsO fr xs=some vs:=by rfl):Stp P n wr fr O ⟨dst,.call ⟨.value (.func f),xs.toArray,ts⟩,ty,pos,af,g⟩ Kp :=
 Zae hx h (by rintro v O' ⟨rfl,rfl⟩;exact k)
theorem Zab (h:∀ w,Bel wr.heap.size wr w->Does P f vs w (fun v O=>v=x/\O=[]))(k:Kp x ([]++O))(hx:evsO fr xs=some vs:=by rfl):Stp P n wr fr O ⟨dst,.call ⟨.value (.func f),xs.toArray,ts⟩,ty,pos,af,g⟩ Kp :=
 ZaM (fun w h1 _=>h w h1) k hx
theorem ZfI (h:∀ w,Bel wr.heap.size wr w->ZaA wr.heap.size O w->Does P f (us++vs++cs) w (fun v O=>v=x/\O=[]))(k:Kp x ([]++O))(hg:ev fr gx=some (.func (.func f) us.toArray cs.toArray):=by rfl)(hx:evsO fr xs=some vs:=by rfl):Stp P n wr fr O ⟨dst,.call ⟨.value gx,xs.toArray,ts⟩,ty,pos,af,g⟩ Kp :=
 Zay hg hx h (by rintro v O' ⟨rfl,rfl⟩;exact k)
end
theorem clo1 {G:Prop}(h:G:=by first|(refine Go.Wk.ret_1 _ [] (.tmp rfl) .nil ⟨?_,rfl⟩;first|rfl|(simp only[*,Bool.true_and,Bool.false_and,Bool.true_or,Bool.false_or,Bool.not_true,Bool.not_false];done)|(simp_all;done)|(simp_all;omega)|(simp_all;rw[Bool.eq_iff_iff];simp;omega))|(exfalso;simp_all;done)|(exfalso;simp_all;omega)|(exfalso;omega)):G:=h
theorem clo2 {G:Prop}(h:G:=by first|(refine Go.Wk.ret_2 _ _ [] (.tmp rfl) (.tmp rfl) .nil ⟨?_,rfl⟩;first|rfl|(simp only[*,Bool.true_and,Bool.false_and,Bool.true_or,Bool.false_or,Bool.not_true,Bool.not_false];done)|(simp_all;done)|(simp_all;omega)|(simp_all;rw[Bool.eq_iff_iff];simp;omega))|(exfalso;simp_all;done)|(exfalso;simp_all;omega)|(exfalso;omega)):G:=h
theorem rtA {G:Prop}(h:G:=by exact Go.Wk.ret_1 _ [] (.tmp rfl) .nil ⟨rfl,rfl⟩):G:=h
theorem rtB {G:Prop}(h:G:=by exact Go.Wk.ret_2 _ _ [] (.tmp rfl) (.tmp rfl) .nil ⟨rfl,rfl⟩):G:=h
theorem rtC {G:Prop}(h:G:=by exact Go.Wk.ret_2 _ _ [] (.cellB rfl (by repeat' constructor) rfl rfl) (.tmp rfl) .nil ⟨rfl,rfl⟩):G:=h
theorem PuI {G:Prop}(h:G:=by first|(apply Go.Wk.Pu_indexAddr;rfl;rfl;omega;omega;(first|exact hna|exact hnb))|(apply Go.Wk.Pu_loadON;rfl;(first|exact hca|exact hcb);rfl)|(apply Go.Wk.Pu_loadO1';rfl;(first|exact hca|exact hcb);rfl)|(apply Go.Wk.Pu_loadO1;rfl;(first|exact hca 0 _ rfl|exact hcb 0 _ rfl))):G:=h
theorem und {G G':Prop}(k:G')(h:Hold G'->G:=by intro k;exact Go.Wk.RL_und rfl rfl rfl rfl k.out):G:=h ⟨k⟩
theorem RLid {P:Program}{n:Nat}{wr:World}{ops:Array Oper}{rest:List Oper}{K:Fr->List It->Prop}{fr:Fr}{O:List It}(h:RL P n wr ops rest K fr O):RL P n wr ops rest K fr O:=h
theorem bx {G G':Prop}(k:G')(h:Hold G'->G:=by intro k;(first|(apply Go.Wk.Stp_boxNf;rfl;exact Go.Wk.NfA;exact k.out)|(apply Go.Wk.Stp_alloc;exact k.out)|(apply Go.Wk.Stp_buildSlice0;exact k.out)|(apply Go.Wk.Stp_buildSliceC;rfl;rfl;rfl;rfl;exact Go.Wk.NfA;exact k.out)|(apply Go.Wk.Stp_buildSliceNf;rfl;rfl;rfl;exact Go.Wk.NfA;exact k.out)|(apply Go.Wk.Stp_makeMap;exact k.out))):G:=h ⟨k⟩
section
variable {P:Program}{n:Nat}{wr:World}{ops:Array Oper}{rest:List Oper}{K:Fr->List It->Prop}{fr:Fr}{O:List It}{ty:TypeId}{pos:String}{af:Array Edge}{d:Nat}
theorem PuA {op:Op}{v:Value}(h:Pu P n wr fr O op ty v:=by(first|(apply Go.Wk.Pu_move;rfl)|(apply Go.Wk.Pu_assign;rfl)|(apply Go.Wk.Pu_pickT;rfl;rfl)|(apply Go.Wk.Pu_pickF;rfl;rfl)|(apply Go.Wk.Pu_fieldAddr0;rfl)|(apply Go.Wk.Pu_fieldAddr;rfl)|(apply Go.Wk.Pu_loadNf;rfl;(focus repeat' constructor);exact Go.Wk.NfA;rfl)|(apply Go.Wk.Pu_loadB1;rfl;(focus repeat' constructor);rfl)|(apply Go.Wk.Pu_field1;rfl;rfl)|(apply Go.Wk.Pu_fieldNf;rfl;exact Go.Wk.NfA)|(apply Go.Wk.Pu_extract;rfl;rfl)|(apply Go.Wk.Pu_buildNf;rfl;rfl;exact Go.Wk.NfA)|(apply Go.Wk.Pu_nilCheck;rfl)|(apply Go.Wk.Pu_nilCheckF;rfl)|(apply Go.Wk.Pu_makeFunc;rfl;rfl)|(apply Go.Wk.Pu_lookup;rfl;rfl;(focus repeat' constructor))|(apply Go.Wk.Pu_lookupOk;rfl;rfl;(focus repeat' constructor))|(apply Go.Wk.Pu_not;rfl)|(apply Go.Wk.Pu_negW;rfl)|(apply Go.Wk.Pu_conv64;rfl;(constructor <;> omega))|(apply Go.Wk.Pu_convI;rfl)|(apply Go.Wk.Pu_lss;rfl;rfl)|(apply Go.Wk.Pu_leq;rfl;rfl)|(apply Go.Wk.Pu_gtr;rfl;rfl)|(apply Go.Wk.Pu_geq;rfl;rfl)|(apply Go.Wk.Pu_eql;rfl;rfl)|(apply Go.Wk.Pu_neq;rfl;rfl)|(apply Go.Wk.Pu_remE;rfl;rfl;omega;omega)|(apply Go.Wk.Pu_rem;rfl;rfl;(first|decide|omega))|(apply Go.Wk.Pu_quo8;rfl;rfl;omega;omega;omega)|(apply Go.Wk.Pu_quo16;rfl;rfl;omega;omega;omega)|(apply Go.Wk.Pu_quo64;rfl;rfl;omega;omega;omega)|(apply Go.Wk.Pu_quo;rfl;rfl;(first|decide|omega))|(apply Go.Wk.Pu_loadLit;rfl;(focus repeat' constructor);rfl;(simp only[Go.Wk.lay_length,Go.Wk.sliceZ_len,List.length_cons,List.length_nil];omega))|(apply Go.Wk.Pu_indexAddr;rfl;rfl;omega;omega;nofun)|(apply Go.Wk.Pu_add;rfl;rfl;(constructor <;> omega))|(apply Go.Wk.Pu_sub';rfl;rfl;(constructor <;> omega))|(apply Go.Wk.Pu_eqlS;rfl;rfl)|(apply Go.Wk.Pu_neqS;rfl;rfl)|(apply Go.Wk.Pu_lssS;rfl;rfl)|(apply Go.Wk.Pu_eqB;rfl;rfl)|(apply Go.Wk.Pu_neqB;rfl;rfl)|(apply Go.Wk.Pu_eqNil;rfl)|(apply Go.Wk.Pu_sliceH;rfl;rfl;omega;omega)|(apply Go.Wk.Pu_capL;rfl)|(apply Go.Wk.Pu_lenL;rfl)|(apply Go.Wk.Pu_lenS;rfl)|(apply Go.Wk.Pu_lenMap;rfl;(focus repeat' constructor))|(apply Go.Wk.Pu_eqlE;rfl;rfl)|(apply Go.Wk.Pu_neqE;rfl;rfl))):Pu P n wr fr O op ty v:=h
theorem QyA {o:Oper}{v:Value}(h:Qy P n wr ops fr O o v:=by(first|(apply Go.Wk.Qy_y;rfl;exact Go.Wk.PuA)|(apply Go.Wk.Qy_n;rfl))):Qy P n wr ops fr O o v:=h
theorem QFA {V:List Qp}(h:QF P n wr ops fr O V:=by repeat (first|exact Go.Wk.QF.nil|(apply Go.Wk.QF.mk;rfl;rfl;decide +kernel;exact Go.Wk.QyA))):QF P n wr ops fr O V:=h
theorem QyI {G:Prop}(h:G:=by first|(apply Go.Wk.Qy_y;rfl;exact Go.Wk.PuI)|exact Go.Wk.QyA):G:=h
theorem QFI {G:Prop}(h:G:=by repeat (first|exact Go.Wk.QF.nil|(apply Go.Wk.QF.mk;rfl;rfl;decide +kernel;exact Go.Wk.QyI))):G:=h
theorem walk1 {G G':Prop}(k:G')(h:Hold G'->G:=by intro k;(first|(apply Go.Wk.RL_pu;rfl;exact Go.Wk.PuA)|(apply Go.Wk.RL_st0;refine Go.Wk.stA ?_)|apply Go.Wk.W_seq|apply Go.Wk.W_region|apply Go.Wk.RL_nil|apply Go.Wk.thenQ_n|apply Go.Wk.W_block|apply Go.Wk.W_skip|apply Go.Wk.W_ret|apply Go.Wk.W_exit|apply Go.Wk.thenQ_r|apply Go.Wk.thenQ_e|apply Go.Wk.blockQ_n|apply Go.Wk.blockQ_r|apply Go.Wk.blockQ_hit|(apply Go.Wk.blockQ_miss;rfl)|(apply Go.Wk.W_true;rfl)|(apply Go.Wk.W_false;rfl)|(apply Go.Wk.RL_yes;rfl;rfl;rfl)|(apply Go.Wk.RL_no;rfl;rfl;rfl;rfl;rfl)|(apply Go.Wk.W_draw;rfl;decide +kernel)|apply Go.Wk.RD_done|(apply Go.Wk.RD_Q;rfl;rfl;decide +kernel;rfl;rfl;exact Go.Wk.QyA)|(apply Go.Wk.RD_N;rfl;rfl;decide +kernel;rfl;rfl;rfl)|(apply Go.Wk.RD_A;rfl;rfl;decide +kernel;rfl;rfl;first|exact Go.Wk.Ay_alloc|exact Go.Wk.Ay_buildSlice0|(apply Go.Wk.Ay_buildSliceC;rfl;rfl;rfl;rfl;exact Go.Wk.NfA)|(apply Go.Wk.Ay_buildSliceNf;rfl;rfl;rfl;exact Go.Wk.NfA)));exact k.out):G:=h ⟨k⟩
theorem walk {G G':Prop}(k:G')(h:Hold G'->G:=by intro k;refine Go.Wk.walk1 ?_;(repeat refine Go.Wk.walk1 ?_);exact k.out):G:=h ⟨k⟩
theorem walk0a {G G':Prop}(k:G')(h:Hold G'->G:=by intro k;(first|(apply Go.Wk.RL_pu;rfl;exact Go.Wk.PuA)|(apply Go.Wk.RL_st0;refine Go.Wk.stA ?_)|apply Go.Wk.W_seq|apply Go.Wk.W_region|apply Go.Wk.RL_nil|apply Go.Wk.thenQ_n|apply Go.Wk.W_block|apply Go.Wk.W_skip|apply Go.Wk.W_ret|apply Go.Wk.W_exit|apply Go.Wk.thenQ_r|apply Go.Wk.thenQ_e|apply Go.Wk.blockQ_n|apply Go.Wk.blockQ_r|apply Go.Wk.blockQ_hit|(apply Go.Wk.blockQ_miss;rfl)|(apply Go.Wk.W_true;rfl)|(apply Go.Wk.W_false;rfl)|(apply Go.Wk.RL_yes;rfl;rfl;rfl)|(apply Go.Wk.RL_no;rfl;rfl;rfl;rfl;rfl)|apply Go.Wk.RD_done|(apply Go.Wk.RD_Q;rfl;rfl;decide +kernel;rfl;rfl;exact Go.Wk.QyA)|(apply Go.Wk.RD_N;rfl;rfl;decide +kernel;rfl;rfl;rfl)|(apply Go.Wk.RD_A;rfl;rfl;decide +kernel;rfl;rfl;first|exact Go.Wk.Ay_alloc|exact Go.Wk.Ay_buildSlice0|(apply Go.Wk.Ay_buildSliceC;rfl;rfl;rfl;rfl;exact Go.Wk.NfA)|(apply Go.Wk.Ay_buildSliceNf;rfl;rfl;rfl;exact Go.Wk.NfA)));exact k.out):G:=h ⟨k⟩
theorem ZuI {G G':Prop}(k:G')(h:Hold G'->G:=by intro k;refine Go.Wk.walk0a ?_;(repeat refine Go.Wk.walk0a ?_);exact k.out):G:=h ⟨k⟩
theorem EndsA {A B C:List It}(h:Ends A B C:=by repeat (first|exact Go.Wk.Ends.nil|apply Go.Wk.Ends.cons|exact Go.Wk.Ends.app)):Ends A B C:=h
theorem RD_Lw {todo:List (Nat × Oper)}{V V':List Qp}{Al:List Ap}{i:Nat}{o:Oper}(hstep:∀ F,Stp P n wr fr (O++F) o fun v O'=>∃ O'',Ends O' F O''/\QF P n wr ops (updF fr o.dst v) O'' V'/\RD P n wr ops todo V' Al K (updF fr o.dst v) O'')
  (hV:Filt ops i V V':=by repeat (first|exact Go.Wk.Filt.nil|(apply Go.Wk.Filt.drop;rfl)|(apply Go.Wk.Filt.dropT;rfl)|(apply Go.Wk.Filt.keep;rfl))) (hok:okL n ops fr ((i,o)::todo) todo o=true:=by rfl) (hal:alOk n fr o.dst Al=true:=by rfl):RD P n wr ops ((i,o)::todo) V Al K fr O:=RD_L hok hal hV hstep
theorem jn {G G':Prop}(k:G')(h:Hold G'->G:=by intro k;(first|(apply Go.Wk.RL_st0;exact k.out)|(apply Go.Wk.RL_st;rfl;exact k.out)|(refine Go.Wk.RD_Lw ?_;exact k.out))):G:=h ⟨k⟩
theorem js {G G':Prop}(k:G')(h:Hold G'->G:=by intro k;(first|(apply Go.Wk.RL_st0;exact k.out)|(apply Go.Wk.RL_st;rfl;exact k.out))):G:=h ⟨k⟩
theorem fin {G G':Prop}(k:G')(h:Hold G'->G:=by intro k;(first|exact⟨_,Go.Wk.EndsA,Go.Wk.QFA,k.out⟩|exact Go.Wk.RLid k.out|exact⟨_,Go.Wk.EndsA,Go.Wk.SubO.right _ _,k.out⟩|(refine⟨_,?_,?_,?_⟩;exact Go.Wk.EndsA;exact .refl _;exact k.out))):G:=h ⟨k⟩
theorem ZzT {todo todo':List (Nat × Oper)}{V V':List Qp}{Al A1:List Ap}{k:Ap}{i:Nat}{o:Oper}(kk:∀ b,RD P n wr ops todo V A1 K ((k.d,k.val b)::fr) (k.it b::O))(hstep:∀ F,Stp P n wr fr (O++F) o fun v O'=>∃ O'',Ends O' F O''/\QF P n wr ops (updF fr o.dst v) O'' V'/\RD P n wr ops todo' V' Al K (updF fr o.dst v) O'')
  (hp:ZeU ops todo Al todo=some ((i,o),todo'):=by rfl) (hks:ZdI ops todo [] Al=[(k,A1)]:=by rfl) (hV:Filt ops i V V':=by repeat (first|exact Go.Wk.Filt.nil|(apply Go.Wk.Filt.drop;rfl)|(apply Go.Wk.Filt.dropT;rfl)|(apply Go.Wk.Filt.keep;rfl))) (hok:okK n ops fr todo todo' o [k.i]=true:=by rfl) (hal:alOk n fr o.dst Al=true:=by rfl):RD P n wr ops todo V Al K fr O:=ZAC hp hks hok hal hV kk hstep
theorem ZzS {todo todo':List (Nat × Oper)}{V V':List Qp}{Al A1 A2:List Ap}{k k2:Ap}{i:Nat}{o:Oper}(kk:∀ b,RD P n wr ops todo V A1 K ((k.d,k.val b)::fr) (k.it b::O))(kk2:∀ b,RD P n wr ops todo V A2 K ((k2.d,k2.val b)::fr) (k2.it b::O))(hstep:∀ F,Stp P n wr fr (O++F) o fun v O'=>∃ O'',Ends O' F O''/\QF P n wr ops (updF fr o.dst v) O'' V'/\RD P n wr ops todo' V' Al K (updF fr o.dst v) O'')
  (hp:ZeU ops todo Al todo=some ((i,o),todo'):=by rfl) (hks:ZdI ops todo [] Al=[(k,A1),(k2,A2)]:=by rfl) (hV:Filt ops i V V':=by repeat (first|exact Go.Wk.Filt.nil|(apply Go.Wk.Filt.drop;rfl)|(apply Go.Wk.Filt.dropT;rfl)|(apply Go.Wk.Filt.keep;rfl))) (hok:okK n ops fr todo todo' o [k.i,k2.i]=true:=by rfl) (hal:alOk n fr o.dst Al=true:=by rfl):RD P n wr ops todo V Al K fr O:=ZAB hp hks hok hal hV kk kk2 hstep
theorem Zdo {todo todo':List (Nat × Oper)}{V V':List Qp}{Al:List Ap}{i:Nat}{o:Oper}(hstep:∀ F,Stp P n wr fr (O++F) o fun v O'=>∃ O'',Ends O' F O''/\SubO O O''/\RD P n wr ops todo' V' Al K ((d,v)::fr) O'')(hp:ZeU ops todo Al todo=some ((i,o),todo'):=by rfl)(hd:o.dst=some d:=by rfl)(hks:ZdI ops todo [] Al=[]:=by rfl)(hV:Filt ops i V V':=by repeat (first|exact Go.Wk.Filt.nil|(apply Go.Wk.Filt.drop;rfl)|(apply Go.Wk.Filt.dropT;rfl)|(apply Go.Wk.Filt.keep;rfl)))(hok:okG n ops fr todo todo' o d Al []=true:=by rfl):RD P n wr ops todo V Al K fr O:=ZzW hp hd hks hok hV hstep
theorem RD_G0c {todo todo':List (Nat × Oper)}{V V':List Qp}{Al:List Ap}{i:Nat}{dst:Option Tmp}{gx:Operand}{xs:Array Operand}{ts:Array TypeId}{ty:TypeId}{pos:String}{af:Array Edge}{g:Option (Nat × Bool)}(hstep:∀ F,Stp P n wr fr (O++F) ⟨dst,.call ⟨.value gx,xs,ts⟩,ty,pos,af,g⟩ fun v O'=>∃ O'',Ends O' F O''/\SubO O O''/\RD P n wr ops todo' V' Al K ((d,v)::fr) O'')(hp:ZeU ops todo Al todo=some ((i,⟨dst,.call ⟨.value gx,xs,ts⟩,ty,pos,af,g⟩),todo'):=by rfl)(hd:dst=some d:=by rfl)(hks:ZdI ops todo [] Al=[]:=by rfl)(hV:Filt ops i V V':=by repeat (first|exact Go.Wk.Filt.nil|(apply Go.Wk.Filt.drop;rfl)|(apply Go.Wk.Filt.dropT;rfl)|(apply Go.Wk.Filt.keep;rfl)))(hok:okG n ops fr todo todo' ⟨dst,.call ⟨.value gx,xs,ts⟩,ty,pos,af,g⟩ d Al []=true:=by rfl):RD P n wr ops todo V Al K fr O:=ZzW hp hd hks hok hV hstep
theorem jg {G G':Prop}(k:G')(h:Hold G'->G:=by intro k;(first|(apply Go.Wk.RL_st0;exact k.out)|(apply Go.Wk.RL_st;rfl;exact k.out)|(refine Go.Wk.RD_Lw ?_;exact k.out)|(refine Go.Wk.RD_G0c ?_;exact k.out))):G:=h ⟨k⟩
theorem ZzV {todo todo':List (Nat × Oper)}{V V':List Qp}{Al A1:List Ap}{k:Ap}{i:Nat}{o:Oper}(kk:∀ b,RD P n wr ops todo V A1 K ((k.d,k.val b)::fr) (k.it b::O))(hstep:∀ F,Stp P n wr fr (O++F) o fun v O'=>∃ O'',Ends O' F O''/\SubO O O''/\RD P n wr ops todo' V' Al K ((d,v)::fr) O'')(hp:ZeU ops todo Al todo=some ((i,o),todo'):=by rfl)(hd:o.dst=some d:=by rfl)(hks:ZdI ops todo [] Al=[(k,A1)]:=by rfl)(hV:Filt ops i V V':=by repeat (first|exact Go.Wk.Filt.nil|(apply Go.Wk.Filt.drop;rfl)|(apply Go.Wk.Filt.dropT;rfl)|(apply Go.Wk.Filt.keep;rfl)))(hok:okG n ops fr todo todo' o d Al [k.i]=true:=by rfl):RD P n wr ops todo V Al K fr O:=ZAF hp hd hks hok hV kk hstep
theorem ZzU {todo todo':List (Nat × Oper)}{V V':List Qp}{Al A1 A2:List Ap}{k k2:Ap}{i:Nat}{o:Oper}(kk:∀ b,RD P n wr ops todo V A1 K ((k.d,k.val b)::fr) (k.it b::O))(kk2:∀ b,RD P n wr ops todo V A2 K ((k2.d,k2.val b)::fr) (k2.it b::O))(hstep:∀ F,Stp P n wr fr (O++F) o fun v O'=>∃ O'',Ends O' F O''/\SubO O O''/\RD P n wr ops todo' V' Al K ((d,v)::fr) O'')(hp:ZeU ops todo Al todo=some ((i,o),todo'):=by rfl)(hd:o.dst=some d:=by rfl)(hks:ZdI ops todo [] Al=[(k,A1),(k2,A2)]:=by rfl)(hV:Filt ops i V V':=by repeat (first|exact Go.Wk.Filt.nil|(apply Go.Wk.Filt.drop;rfl)|(apply Go.Wk.Filt.dropT;rfl)|(apply Go.Wk.Filt.keep;rfl)))(hok:okG n ops fr todo todo' o d Al [k.i,k2.i]=true:=by rfl):RD P n wr ops todo V Al K fr O:=ZAE hp hd hks hok hV kk kk2 hstep
end
end Go.Wk
namespace Go.Proofs.YtpipekfmecikmaaGreatDoor
open Go Go.Wk
instance : Ty Tryz.prog 2 1 false:={}
instance : ZeroT Tryz.prog 2 [.int .i64 0]:={}
instance : IntT Tryz.prog 2 .i64:={}
instance : Ty Tryz.prog 3 1 false:={}
instance : ZeroT Tryz.prog 3 [.int .i64 0]:={}
instance : ZeroV Tryz.prog 3 (.int .i64 0):={}
instance : Ty Tryz.prog 4 1 false:={}
instance : ZeroT Tryz.prog 4 [.bool false]:={}
instance : ZeroV Tryz.prog 4 (.bool false):={}
instance : BoolT Tryz.prog 4:={}
instance : Ty Tryz.prog 5 1 false:={}
instance : ZeroT Tryz.prog 5 [.int .u8 0]:={}
instance : IntT Tryz.prog 5 .u8:={}
instance : Ty Tryz.prog 9 1 false:={}
instance : ZeroT Tryz.prog 9 [.string ByteArray.empty]:={}
instance : StringT Tryz.prog 9:={}
instance : Ty Tryz.prog 22 1 false:={}
instance : ElemZ Tryz.prog 22 68 11 104:={}
instance : ElemT Tryz.prog 22 68 11 104:={}
instance : Ty Tryz.prog 23 1 false:={}
instance : ElemZ Tryz.prog 23 71 2 40:={}
instance : ElemT Tryz.prog 23 71 2 40:={}
instance : Ty Tryz.prog 24 1 false:={}
instance : ElemT Tryz.prog 24 77 2 32:={}
instance : Ty Tryz.prog 25 1 false:={}
instance : ElemZ Tryz.prog 25 9 1 16:={}
instance : ElemT Tryz.prog 25 9 1 16:={}
instance : Ty Tryz.prog 27 4 true:={}
instance : FieldAt Tryz.prog 27 0 0 1 false:={}
instance : FieldAt Tryz.prog 27 1 1 1 false:={}
instance : FieldAt Tryz.prog 27 2 2 1 false:={}
instance : FieldAt Tryz.prog 27 3 3 1 false:={}
instance : LayT Tryz.prog 27 [(0,1),(1,1),(2,1),(3,1)]:={}
instance : ZeroT Tryz.prog 27 [.slice none 0 0,.slice none 0 0,.slice none 0 0,.slice none 0 0]:={}
instance : Ty Tryz.prog 31 5 true:={}
instance : FieldAt Tryz.prog 31 4 4 1 false:={}
instance : LayT Tryz.prog 31 [(0,1),(1,1),(2,1),(3,1),(4,1)]:={}
instance : ZeroT Tryz.prog 31 [.int .i64 0,.int .i64 0,.int .i64 0,.int .i64 0,.int .i64 0]:={}
instance : Ty Tryz.prog 33 14 true:={}
instance : FieldAt Tryz.prog 33 4 4 5 true:={}
instance : FieldAt Tryz.prog 33 5 9 5 true:={}
instance : LayT Tryz.prog 33 [(0,1),(1,1),(2,1),(3,1),(4,5),(9,5)]:={}
instance : ZeroT Tryz.prog 33 [.string ByteArray.empty,.int .i64 0,.string ByteArray.empty,.int .i64 0,.int .i64 0,.int .i64 0,.int .i64 0,.int .i64 0,.int .i64 0,.int .i64 0,.int .i64 0,.int .i64 0,.int .i64 0,.int .i64 0]:={}
instance : Ty Tryz.prog 34 1 false:={}
instance : Ty Tryz.prog 62 1 false:={}
instance : Ty Tryz.prog 64 3 true:={}
instance : FieldAt Tryz.prog 64 0 0 1 false:={}
instance : FieldAt Tryz.prog 64 1 1 1 false:={}
instance : FieldAt Tryz.prog 64 2 2 1 false:={}
instance : LayT Tryz.prog 64 [(0,1),(1,1),(2,1)]:={}
instance : ZeroT Tryz.prog 64 [.int .i64 0,.int .i64 0,.int .i64 0]:={}
instance : Ty Tryz.prog 66 2 true:={}
instance : FieldAt Tryz.prog 66 0 0 1 false:={}
instance : FieldAt Tryz.prog 66 1 1 1 false:={}
instance : LayT Tryz.prog 66 [(0,1),(1,1)]:={}
instance : ZeroT Tryz.prog 66 [.int .i64 0,.int .i64 0]:={}
instance : Ty Tryz.prog 68 11 true:={}
instance : FieldAt Tryz.prog 68 0 0 1 false:={}
instance : FieldAt Tryz.prog 68 1 1 1 false:={}
instance : FieldAt Tryz.prog 68 2 2 1 false:={}
instance : FieldAt Tryz.prog 68 3 3 1 false:={}
instance : FieldAt Tryz.prog 68 4 4 3 true:={}
instance : FieldAt Tryz.prog 68 5 7 2 true:={}
instance : FieldAt Tryz.prog 68 6 9 1 false:={}
instance : FieldAt Tryz.prog 68 7 10 1 false:={}
instance : LayT Tryz.prog 68 [(0,1),(1,1),(2,1),(3,1),(4,3),(7,2),(9,1),(10,1)]:={}
instance : ZeroT Tryz.prog 68 [.string ByteArray.empty,.int .i64 0,.int .i64 0,.int .i64 0,.int .i64 0,.int .i64 0,.int .i64 0,.int .i64 0,.int .i64 0,.int .i64 0,.string ByteArray.empty]:={}
instance : Ty Tryz.prog 69 1 false:={}
instance : ElemZ Tryz.prog 69 75 13 120:={}
instance : ElemT Tryz.prog 69 75 13 120:={}
instance : Ty Tryz.prog 71 2 true:={}
instance : FieldAt Tryz.prog 71 0 0 1 false:={}
instance : FieldAt Tryz.prog 71 1 1 1 false:={}
instance : LayT Tryz.prog 71 [(0,1),(1,1)]:={}
instance : ZeroT Tryz.prog 71 [.string ByteArray.empty,.slice none 0 0]:={}
instance : Ty Tryz.prog 73 8 true:={}
instance : FieldAt Tryz.prog 73 0 0 1 false:={}
instance : FieldAt Tryz.prog 73 1 1 1 false:={}
instance : FieldAt Tryz.prog 73 2 2 1 false:={}
instance : FieldAt Tryz.prog 73 3 3 3 true:={}
instance : FieldAt Tryz.prog 73 4 6 2 true:={}
instance : LayT Tryz.prog 73 [(0,1),(1,1),(2,1),(3,3),(6,2)]:={}
instance : ZeroT Tryz.prog 73 [.bool false,.int .i64 0,.int .i64 0,.int .i64 0,.int .i64 0,.int .i64 0,.int .i64 0,.int .i64 0]:={}
instance : Ty Tryz.prog 75 13 true:={}
instance : FieldAt Tryz.prog 75 0 0 1 false:={}
instance : FieldAt Tryz.prog 75 1 1 1 false:={}
instance : FieldAt Tryz.prog 75 2 2 1 false:={}
instance : FieldAt Tryz.prog 75 3 3 1 false:={}
instance : FieldAt Tryz.prog 75 4 4 1 false:={}
instance : FieldAt Tryz.prog 75 5 5 8 true:={}
instance : LayT Tryz.prog 75 [(0,1),(1,1),(2,1),(3,1),(4,1),(5,8)]:={}
instance : ZeroT Tryz.prog 75 [.int .i64 0,.int .i64 0,.int .i64 0,.string ByteArray.empty,.string ByteArray.empty,.bool false,.int .i64 0,.int .i64 0,.int .i64 0,.int .i64 0,.int .i64 0,.int .i64 0,.int .i64 0]:={}
instance : Ty Tryz.prog 77 2 true:={}
instance : FieldAt Tryz.prog 77 0 0 1 false:={}
instance : FieldAt Tryz.prog 77 1 1 1 false:={}
instance : ZeroT Tryz.prog 77 [.string ByteArray.empty,.string ByteArray.empty]:={}
instance : Ty Tryz.prog 91 3 true:={}
instance : FieldAt Tryz.prog 91 0 0 1 false:={}
instance : FieldAt Tryz.prog 91 1 1 1 false:={}
instance : FieldAt Tryz.prog 91 2 2 1 false:={}
instance : LayT Tryz.prog 91 [(0,1),(1,1),(2,1)]:={}
instance : ZeroT Tryz.prog 91 [.int .i64 0,.int .i64 0,.int .i64 0]:={}
instance : Ty Tryz.prog 135 1 false:={}
instance : ArrT Tryz.prog 136 5 135 1 false:={}
instance : Ty Tryz.prog 138 3 true:={}
instance : FieldAt Tryz.prog 138 2 2 1 false:={}
instance : LayT Tryz.prog 138 [(0,1),(1,1),(2,1)]:={}
instance : ZeroT Tryz.prog 138 [.int .i64 0,.int .i64 0,.int .i64 0]:={}
instance : Ty Tryz.prog 155 2 true:={}
instance : FieldAt Tryz.prog 155 0 0 1 false:={}
instance : FieldAt Tryz.prog 155 1 1 1 false:={}
instance : LayT Tryz.prog 155 [(0,1),(1,1)]:={}
instance : ZeroT Tryz.prog 155 [.int .i64 0,.string ByteArray.empty]:={}
instance : Ty Tryz.prog 169 1 false:={}
instance : Ty Tryz.prog 171 3 true:={}
instance : FieldAt Tryz.prog 171 0 0 1 false:={}
instance : FieldAt Tryz.prog 171 1 1 1 false:={}
instance : FieldAt Tryz.prog 171 2 2 1 false:={}
instance : ZeroT Tryz.prog 171 [.bool false,.bool false,.nilFunc]:={}
instance : ArrT Tryz.prog 172 5 171 3 true:={}
instance : Ty Tryz.prog 174 4 true:={}
instance : FieldAt Tryz.prog 174 0 0 4 true:={}
instance : LayT Tryz.prog 174 [(0,4)]:={}
instance : ZeroT Tryz.prog 174 [.slice none 0 0,.slice none 0 0,.slice none 0 0,.slice none 0 0]:={}
instance : Ty Tryz.prog 175 1 false:={}
instance : ElemZ Tryz.prog 176 175 1 8:={}
instance : ElemT Tryz.prog 176 175 1 8:={}
instance : MapT Tryz.prog 207 9 3:={}
instance : ArrT Tryz.prog 209 12 2 1 false:={}
instance : ElemZ Tryz.prog 221 3 1 8:={}
instance : ElemT Tryz.prog 221 3 1 8:={}
instance : Ty Tryz.prog 238 3 true:={}
instance : ArrT Tryz.prog 238 3 2 1 false:={}
instance : ZeroT Tryz.prog 238 [.int .i64 0,.int .i64 0,.int .i64 0]:={}
instance : ElemZ Tryz.prog 239 5 1 1:={}
instance : ElemT Tryz.prog 239 5 1 1:={}
instance : ElemZ Tryz.prog 240 2 1 8:={}
instance : ElemT Tryz.prog 240 2 1 8:={}
instance : MapT Tryz.prog 245 9 4:={}
instance : Ty Tryz.prog 246 1 false:={}
instance : Ty Tryz.prog 248 2 true:={}
instance : FieldAt Tryz.prog 248 0 0 1 false:={}
instance : FieldAt Tryz.prog 248 1 1 1 false:={}
instance : ZeroT Tryz.prog 248 [.nilFunc,.int .i64 0]:={}
instance : Ty Tryz.prog 249 12 true:={}
instance : ArrT Tryz.prog 249 6 248 2 true:={}
instance : Ty Tryz.prog 252 1 false:={}
instance : ZeroT Tryz.prog 252 [.slice none 0 0]:={}
instance : ElemZ Tryz.prog 252 91 3 24:={}
instance : ElemT Tryz.prog 252 91 3 24:={}
instance : ElemZ Tryz.prog 259 155 2 24:={}
instance : ElemT Tryz.prog 259 155 2 24:={}
instance : MapT Tryz.prog 264 266 3:={}
instance : LayT Tryz.prog 266 [(0,1),(1,1)]:={}
instance : ZeroT Tryz.prog 266 [.int .i64 0,.string ByteArray.empty]:={}
instance : ElemZ Tryz.prog 269 252 1 24:={}
instance : ElemT Tryz.prog 269 252 1 24:={}
instance : ElemZ Tryz.prog 274 276 2 24:={}
instance : ElemT Tryz.prog 274 276 2 24:={}
instance : Ty Tryz.prog 276 2 true:={}
instance : LayT Tryz.prog 276 [(0,1),(1,1)]:={}
instance : ZeroT Tryz.prog 276 [.int .i64 0,.string ByteArray.empty]:={}
instance : Ty Tryz.prog 279 256 true:={}
instance : ArrT Tryz.prog 279 256 5 1 false:={}
instance : Ty Tryz.prog 286 1 false:={}
instance : IntT Tryz.prog 286 .u64:={}
instance : Body Tryz.prog 7:={}
instance : Body Tryz.prog 8:={}
instance : Body Tryz.prog 9:={}
instance : Body Tryz.prog 10:={}
instance : Body Tryz.prog 11:={}
instance : Body Tryz.prog 12:={}
instance : Body Tryz.prog 31:={}
instance : Body Tryz.prog 32:={}
instance : Body Tryz.prog 33:={}
instance : Body Tryz.prog 34:={}
instance : Body Tryz.prog 35:={}
instance : Body Tryz.prog 36:={}
instance : Body Tryz.prog 37:={}
instance : Body Tryz.prog 38:={}
instance : Body Tryz.prog 39:={}
instance : Body Tryz.prog 40:={}
instance : Body Tryz.prog 41:={}
instance : Body Tryz.prog 42:={}
instance : Body Tryz.prog 43:={}
instance : Body Tryz.prog 44:={}
instance : Body Tryz.prog 45:={}
instance : Body Tryz.prog 46:={}
instance : Body Tryz.prog 47:={}
instance : Body Tryz.prog 48:={}
instance : Body Tryz.prog 53:={}
instance : Body Tryz.prog 72:={}
instance : Body Tryz.prog 73:={}
instance : Body Tryz.prog 74:={}
instance : Body Tryz.prog 75:={}
instance : Body Tryz.prog 76:={}
instance : Body Tryz.prog 77:={}
instance : Body Tryz.prog 78:={}
instance : Body Tryz.prog 79:={}
instance : Body Tryz.prog 80:={}
instance : Body Tryz.prog 81:={}
instance : Body Tryz.prog 82:={}
instance : Body Tryz.prog 83:={}
instance : Body Tryz.prog 84:={}
instance : Body Tryz.prog 85:={}
instance : Body Tryz.prog 86:={}
instance : Body Tryz.prog 87:={}
instance : Body Tryz.prog 88:={}
instance : Body Tryz.prog 89:={}
instance : Body Tryz.prog 90:={}
instance : Body Tryz.prog 91:={}
instance : Body Tryz.prog 92:={}
instance : Body Tryz.prog 93:={}
instance : Body Tryz.prog 94:={}
instance : Body Tryz.prog 95:={}
instance : Body Tryz.prog 99:={}
instance : Body Tryz.prog 100:={}
instance : Body Tryz.prog 101:={}
instance : Body Tryz.prog 107:={}
instance : Body Tryz.prog 113:={}
instance : Body Tryz.prog 114:={}
instance : Body Tryz.prog 115:={}
instance : Body Tryz.prog 116:={}
instance : Body Tryz.prog 117:={}
instance : Body Tryz.prog 118:={}
instance : Body Tryz.prog 119:={}
instance : Body Tryz.prog 120:={}
instance : Body Tryz.prog 121:={}
instance : Body Tryz.prog 122:={}
instance : Body Tryz.prog 123:={}
instance : Body Tryz.prog 124:={}
instance : Body Tryz.prog 125:={}
instance : Body Tryz.prog 126:={}
instance : Body Tryz.prog 127:={}
instance : Body Tryz.prog 128:={}
instance : Body Tryz.prog 129:={}
instance : Body Tryz.prog 130:={}
instance : Body Tryz.prog 131:={}
instance : Body Tryz.prog 132:={}
instance : Body Tryz.prog 133:={}
instance : Body Tryz.prog 134:={}
instance : Body Tryz.prog 135:={}
instance : Body Tryz.prog 136:={}
instance : Body Tryz.prog 137:={}
instance : Body Tryz.prog 138:={}
instance : Body Tryz.prog 139:={}
instance : Body Tryz.prog 140:={}
instance : Body Tryz.prog 141:={}
instance : Body Tryz.prog 146:={}
instance : Body Tryz.prog 147:={}
instance : Body Tryz.prog 148:={}
instance : Body Tryz.prog 149:={}
instance : Body Tryz.prog 150:={}
instance : Body Tryz.prog 151:={}
instance : Body Tryz.prog 152:={}
instance : Body Tryz.prog 158:={}
instance : Body Tryz.prog 159:={}
instance : Body Tryz.prog 160:={}
instance : Body Tryz.prog 161:={}
instance : Body Tryz.prog 162:={}
instance : Body Tryz.prog 163:={}
instance : Body Tryz.prog 164:={}
instance : Body Tryz.prog 165:={}
instance : Body Tryz.prog 167:={}
instance : Body Tryz.prog 172:={}
instance : Body Tryz.prog 173:={}
instance : Body Tryz.prog 174:={}
instance : Body Tryz.prog 175:={}
instance : Body Tryz.prog 176:={}
instance : Body Tryz.prog 177:={}
instance : Body Tryz.prog 178:={}
instance : Body Tryz.prog 179:={}
instance : Body Tryz.prog 180:={}
instance : Body Tryz.prog 181:={}
instance : Body Tryz.prog 182:={}
instance : Body Tryz.prog 183:={}
instance : Body Tryz.prog 184:={}
instance : Body Tryz.prog 185:={}
instance : Body Tryz.prog 186:={}
instance : Body Tryz.prog 187:={}
instance : Body Tryz.prog 188:={}
instance : Body Tryz.prog 189:={}
instance : Body Tryz.prog 190:={}
instance : Body Tryz.prog 191:={}
instance : Body Tryz.prog 192:={}
instance : Body Tryz.prog 193:={}
instance : Body Tryz.prog 194:={}
instance : Body Tryz.prog 195:={}
instance : Body Tryz.prog 196:={}
instance : Body Tryz.prog 197:={}
instance : Body Tryz.prog 198:={}
instance : Body Tryz.prog 199:={}
instance : Body Tryz.prog 200:={}
instance : Body Tryz.prog 201:={}
instance : Body Tryz.prog 202:={}
instance : Body Tryz.prog 203:={}
instance : Body Tryz.prog 204:={}
instance : Body Tryz.prog 205:={}
instance : Body Tryz.prog 207:={}
instance : Body Tryz.prog 210:={}
instance : Body Tryz.prog 211:={}
instance : Body Tryz.prog 212:={}
instance : Body Tryz.prog 213:={}
instance : Body Tryz.prog 215:={}
instance : Body Tryz.prog 217:={}
instance : Body Tryz.prog 218:={}
instance : Body Tryz.prog 219:={}
instance : Body Tryz.prog 220:={}
instance : Body Tryz.prog 226:={}
instance : Body Tryz.prog 227:={}
instance : Body Tryz.prog 228:={}
instance : Body Tryz.prog 229:={}
instance : Body Tryz.prog 230:={}
instance : Body Tryz.prog 231:={}
instance : Body Tryz.prog 232:={}
instance : Body Tryz.prog 233:={}
instance : Body Tryz.prog 234:={}
instance : Body Tryz.prog 235:={}
instance : Body Tryz.prog 236:={}
instance : Body Tryz.prog 237:={}
instance : Body Tryz.prog 238:={}
instance : Body Tryz.prog 239:={}
instance : Body Tryz.prog 240:={}
instance : Body Tryz.prog 241:={}
instance : Body Tryz.prog 242:={}
instance : Body Tryz.prog 243:={}
instance : Body Tryz.prog 244:={}
instance : Body Tryz.prog 245:={}
instance : Body Tryz.prog 246:={}
instance : Body Tryz.prog 247:={}
instance : Body Tryz.prog 248:={}
instance : Body Tryz.prog 249:={}
instance : Body Tryz.prog 250:={}
instance : Body Tryz.prog 251:={}
instance : Body Tryz.prog 252:={}
instance : Body Tryz.prog 253:={}
instance : Body Tryz.prog 254:={}
instance : Body Tryz.prog 255:={}
instance : Body Tryz.prog 256:={}
instance : Body Tryz.prog 257:={}
instance : Body Tryz.prog 258:={}
instance : Body Tryz.prog 259:={}
instance : Body Tryz.prog 260:={}
instance : Body Tryz.prog 262:={}
instance : Body Tryz.prog 264:={}
instance : Body Tryz.prog 265:={}
instance : Body Tryz.prog 269:={}
instance : Body Tryz.prog 270:={}
instance : Body Tryz.prog 271:={}
instance : Body Tryz.prog 272:={}
instance : Body Tryz.prog 273:={}
instance : Body Tryz.prog 274:={}
instance : Body Tryz.prog 275:={}
instance : Body Tryz.prog 276:={}
instance : Body Tryz.prog 277:={}
instance : Body Tryz.prog 278:={}
instance : Body Tryz.prog 279:={}
instance : Body Tryz.prog 280:={}
instance : Body Tryz.prog 281:={}
instance : Body Tryz.prog 282:={}
instance : Body Tryz.prog 283:={}
instance : Body Tryz.prog 284:={}
instance : Body Tryz.prog 285:={}
instance : Body Tryz.prog 286:={}
instance : Body Tryz.prog 287:={}
instance : Body Tryz.prog 291:={}
instance : Body Tryz.prog 292:={}
instance : Body Tryz.prog 293:={}
instance : Body Tryz.prog 294:={}
instance : Body Tryz.prog 295:={}
instance : Body Tryz.prog 313:={}
instance : Body Tryz.prog 315:={}
instance : Body Tryz.prog 316:={}
instance : Body Tryz.prog 317:={}
instance : Body Tryz.prog 376:={}
instance : Body Tryz.prog 377:={}
instance : Body Tryz.prog 378:={}
instance : Body Tryz.prog 379:={}
instance : Body Tryz.prog 383:={}
instance : Body Tryz.prog 384:={}
instance : Body Tryz.prog 385:={}
instance : Body Tryz.prog 386:={}
instance : Body Tryz.prog 387:={}
instance : Body Tryz.prog 388:={}
instance : Body Tryz.prog 389:={}
instance : Body Tryz.prog 390:={}
instance : Body Tryz.prog 391:={}
instance : Body Tryz.prog 392:={}
instance : Body Tryz.prog 393:={}
instance : Body Tryz.prog 394:={}
instance : Body Tryz.prog 395:={}
instance : Body Tryz.prog 396:={}
instance : Body Tryz.prog 397:={}
instance : Body Tryz.prog 398:={}
instance : Body Tryz.prog 399:={}
open Go Go.RowKit Go.Wk
theorem Zlu (w:World)(p:Prop)[Decidable p](b:Bool):(if p then Result.ok b w else Result.ok false w)=Result.ok (decide p&&b) w:=by
 by_cases h:p <;> simp[h]
attribute [local irreducible] W RL Does Zat Zaj retQ Calls Pu Stp RD Qy Ay
theorem Zag {α:Type}{xs:List α}{k:Nat}(h:k<xs.length):xs.drop k=xs[k]::xs.drop (k+1):=List.drop_eq_getElem_cons h
def srcV (Ar Az Al As:Option Addr)(cr cz cl cs:Nat)(s:DSource):Value := .agg #[.slice Ar s.rules.length cr,.slice Az s.zones.length cz,.slice Al s.links.length cl,.slice As s.shifts.length cs]
def memB (x:ByteArray):List ByteArray->Bool
 | []=>false
 | y::l=>decide (y=x)||memB x l
def ZbL {α:Type}(p:α->Bool):List α->Nat->Int
 | [],_ => -1
 | x::l,k=>if p x then k else ZbL p l (k+1)
theorem ZqI (A:Option Addr)(c:Nat)(l:List ByteArray)(x:ByteArray)(w:World)(hA:RdSl w A c ZaU 1 l) :
  Does Tryz.prog 231 [.slice A l.length c,.string x] w (fun v O=>v = .int .i64 (ZbL (fun y=>decide (x=y)) l 0)/\O=[]):=by
 have hs1:=hA.le
 have hs2:=hA.cap
 unfold maxLen at hs2
 generalize hres:ZbL (fun y=>decide (x=y)) l 0=res
 refine Zaa Tryz.func231 rfl rfl rfl rfl ?_
 repeat (first|refine walk ?_)
 refine Zai [(0,_),(1,_),(4,_),(7,_)] _ (fun k:Nat=>[(8,.int .i64 k)]) (fun _=>[]) (fun k=>k<=l.length/\ZbL (fun y=>decide (x=y)) (l.drop k) k=res) (fun k=>l.length - k) 0 ⟨rfl,rfl,rfl,rfl,rfl,trivial⟩ (.refl _) ⟨by omega,by simpa using hres⟩ ?_
 rintro k ⟨hk,hi⟩
 repeat (first|refine walk ?_)
 refine Zaf rfl (fun hc=>?_) (fun hc=>?_)
 ·simp only[decide_eq_true_eq,Int.ofNat_lt]at hc
  obtain⟨hna,hca⟩:=hA.rd k _ (List.getElem?_eq_getElem hc)
  have hnb:=hna
  have hcb:=hca
  rw[Zag hc,ZbL]at hi
  generalize l[k]=p at *
  repeat (first|(apply RL_pu;rfl;exact PuI)|refine walk1 ?_)
  refine Zaf rfl (fun h3=>?_) (fun h3=>?_)
  ·repeat (first|refine walk ?_)
   rw[if_pos h3]at hi
   exact ret_1 _ [] (.tmp rfl) .nil ⟨by rw[<- hi],rfl⟩
  repeat (first|refine walk ?_)
  rw[h3]at hi
  exact⟨k+1,by omega,⟨by omega,hi⟩,SFA,SOA⟩
 simp only[decide_eq_false_iff_not,Int.ofNat_lt]at hc
 repeat (first|refine walk ?_)
 exact ret_1 _ [] (.tmp rfl) .nil ⟨by rw[<- hi,List.drop_eq_nil_of_le (by omega)];rfl,rfl⟩
theorem ZlT (x:ByteArray):∀ (l:List ByteArray) (k:Nat),decide (0<=ZbL (fun y=>decide (x=y)) l k)=memB x l
 | [],k=>by simp[ZbL,memB]
 | y::l,k=>by
  have ih:=ZlT x l (k+1)
  simp only[ZbL,memB]
  by_cases h:x=y
  ·subst h;simp
  ·rw[<- ih]
   have:¬ y=x:=fun e=>h e.symm
   simp[h,this]
theorem Zkz (A:Option Addr)(c:Nat)(l:List ByteArray)(x:ByteArray)(w:World)(hA:RdSl w A c ZaU 1 l) :
  Does Tryz.prog 180 [.slice A l.length c,.string x] w (fun v O=>v = .bool (memB x l)/\O=[]):=by
 refine Zaa Tryz.func180 rfl rfl rfl rfl ?_
 repeat (first|(refine js ?_;(refine Zab (fun w' hw=>ZqI A c l x w' (hA.up hw)) ?_))|refine walk ?_)
 exact ret_1 _ [] (.tmp rfl) .nil ⟨by rw[ZlT],rfl⟩
theorem Ze3 (A:Option Addr)(c:Nat)(l:List DRule)(f:FuncId)[Body Tryz.prog f](us cs:List Value)(p:DRule->Bool)(w:World)(hA:RdSl w A c DRule.enc 11 l)
  (hf:∀ r w',Bel w.heap.size w w'->Does Tryz.prog f (us++[.agg (DRule.enc r).toArray]++cs) w' (fun v O=>v = .bool (p r)/\O=[])) :
  Does Tryz.prog 269 [.slice A l.length c,.func (.func f) us.toArray cs.toArray] w (fun v O=>v = .int .i64 (ZbL p l 0)/\O=[]):=by
 have hs1:=hA.le
 have hs2:=hA.cap
 unfold maxLen at hs2
 generalize hres:ZbL p l 0=res
 refine Zaa Tryz.func269 rfl rfl rfl rfl ?_
 repeat (first|refine walk ?_)
 refine Zai [(0,_),(1,_),(4,_),(7,_)] _ (fun k:Nat=>[(8,.int .i64 k)]) (fun _=>[]) (fun k=>k<=l.length/\ZbL p (l.drop k) k=res) (fun k=>l.length - k) 0 ⟨rfl,rfl,rfl,rfl,rfl,trivial⟩ (.refl _) ⟨by omega,by simpa using hres⟩ ?_
 rintro k ⟨hk,hi⟩
 repeat (first|refine walk ?_)
 refine Zaf rfl (fun hc=>?_) (fun hc=>?_)
 ·simp only[decide_eq_true_eq,Int.ofNat_lt]at hc
  obtain⟨hna,hca⟩:=hA.rd k _ (List.getElem?_eq_getElem hc)
  have hnb:=hna
  have hcb:=hca
  rw[Zag hc,ZbL]at hi
  generalize l[k]=r at *
  repeat (first|(apply RL_pu;rfl;exact PuI)|(refine js ?_;(refine ZfI (fun w' hw _=>hf r w' hw) ?_))|refine walk1 ?_)
  refine Zaf rfl (fun h3=>?_) (fun h3=>?_)
  ·repeat (first|refine walk ?_)
   rw[if_pos h3]at hi
   exact ret_1 _ [] (.tmp rfl) .nil ⟨by rw[<- hi],rfl⟩
  repeat (first|refine walk ?_)
  rw[h3]at hi
  exact⟨k+1,by omega,⟨by omega,hi⟩,SFA,SOA⟩
 simp only[decide_eq_false_iff_not,Int.ofNat_lt]at hc
 repeat (first|refine walk ?_)
 exact ret_1 _ [] (.tmp rfl) .nil ⟨by rw[<- hi,List.drop_eq_nil_of_le (by omega)];rfl,rfl⟩
end Go.Proofs.YtpipekfmecikmaaGreatDoor
