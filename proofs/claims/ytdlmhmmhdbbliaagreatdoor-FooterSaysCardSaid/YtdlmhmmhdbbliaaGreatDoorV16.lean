/- Parts of the proof. -/
import Derived.Test.YtdlmhmmhdbbliaaGreatDoorV15
set_option maxHeartbeats 4000000
set_option linter.unusedVariables false
set_option linter.unusedSimpArgs false
namespace Go.Wk
open Go Go.RowKit
theorem Zke {a b m:Nat}{s:ByteArray}(h:Zdd a b m s.data.toList=true):(a:Int)<=s.size/\(s.size:Int)<=b:=by
 simp only[Zdd,Bool.and_eq_true,decide_eq_true_eq]at h
 have:s.data.toList.length=s.size:=rfl
 omega
theorem ext1 (s:ByteArray):(s.extract 0 1).data.toList=s.data.toList.take 1:=by
 rw[ByteArray.data_extract];simp
end Go.Wk
namespace Go.Proofs.YtdlmhmmhdbbliaaGreatDoor
open Go Go.RowKit Go.Wk
attribute [local irreducible] W RL Does Zau Zak retQ Calls Pu Stp RD Qy Ay Zaj Zdd
theorem Zp0 {base:Nat}{s:ByteArray}{a b m b1 b2 b3 b4:Nat}{O:List It}{w:World}(hs:(s.size:Int)<=9223372036854775807)(hm:m<256)(hH:Zay base O w)(hO:SubO (ofO a b m b1 b2 b3 b4) O) :
  Does Tryz.prog 195 ([]++[.string s]++[.pointer (some ⟨b1,0,none⟩),.pointer (some ⟨b2,0,none⟩),.pointer (some ⟨b3,0,none⟩),.pointer (some ⟨b4,0,none⟩)]) w (fun v O=>∃ x,Zdd a b m s.data.toList=x/\v = .bool x/\O=[]) :=
 (Zk5 hs hm hH hO).monoO fun v O ⟨h1,h2⟩=>⟨O,⟨_,rfl,h1,h2⟩,fun _ _ h=>h⟩
theorem ZlL {G:Prop}(h:G:=by(apply Zhs;rfl;rfl;decide;exact hsz)):G:=h
theorem Zqz {G:Prop}(h:G:=by first|(apply Qy_y;rfl;exact ZlL)|exact QyA):G:=h
theorem Zxd {G:Prop}(h:G:=by repeat (first|exact QF.nil|(apply QF.mk;rfl;rfl;decide +kernel;exact Zqz))):G:=h
theorem Zwc (s:ByteArray)(hs:(s.size:Int)<=9223372036854775807)(w:World):Does Tryz.prog 133 [.string s] w (fun v O=>v = .bool (setB s)/\O=[]):=by
 have hs1:((s.extract 0 1).size:Int)<=9223372036854775807:=by rw[ByteArray.size_extract];omega
 refine Zaa Tryz.func133 rfl rfl rfl rfl ?_
 repeat (first|refine walk ?_|(refine jn ?_;(try intro F);(first|(apply Zag (h:=fun w' _ _=>Zgk 1 30 15 w');rfl;rintro v O' ⟨b1,b2,b3,b4,rfl,rfl⟩)|(apply Zar (f:=195) (us:=[]) (vs:=[.string (s)]) (cs:=[.pointer (some ⟨b1,0,none⟩),.pointer (some ⟨b2,0,none⟩),.pointer (some ⟨b3,0,none⟩),.pointer (some ⟨b4,0,none⟩)]) (h:=fun w' _ hH=>Zp0 (a:=1) (b:=30) (m:=15) hs (by decide) hH SOA);rfl;rfl;rintro v O' ⟨x1,hx1,rfl,rfl⟩)|(apply Zae;exact PuA));refine fin ?_))
 refine Zas rfl rfl rfl (fun hc=>?_) (fun hc=>?_)
 ·subst hc
  have hsz:=(Zke hx1).1
  have e:setB s=Zdd 1 1 1 (s.extract 0 1).data.toList:=by rw[setB,hx1,ext1];rfl
  rw[e]
  repeat (first|(apply RL_pu;rfl;exact ZlL)|(apply RD_Q;rfl;rfl;decide +kernel;rfl;rfl;exact Zqz)|refine walk1 ?_|(refine jn ?_;(try intro F);(first|(apply Zag (h:=fun w' _ _=>Zgk 1 1 1 w');rfl;rintro v O' ⟨b1,b2,b3,b4,rfl,rfl⟩)|(apply Zar (f:=195) (us:=[]) (vs:=[.string (s.extract 0 1)]) (cs:=[.pointer (some ⟨b1,0,none⟩),.pointer (some ⟨b2,0,none⟩),.pointer (some ⟨b3,0,none⟩),.pointer (some ⟨b4,0,none⟩)]) (h:=fun w' _ hH=>Zp0 (a:=1) (b:=1) (m:=1) hs1 (by decide) hH SOA);rfl;rfl;rintro v O' ⟨x2,hx2,rfl,rfl⟩)|(apply Zae;first|exact ZlL|exact PuA));first|refine⟨_,EndsA,Zxd,?_⟩|refine fin ?_))
  exact ret_1 _ [] (.tmp rfl) .nil ⟨by rw[hx2],rfl⟩
 ·subst hc
  have e:setB s=false:=by rw[setB,hx1];rfl
  rw[e]
  repeat (first|refine walk ?_|(refine jn ?_;(try intro F);(apply Zae;exact PuA);refine fin ?_))
  exact rtA
end Go.Proofs.YtdlmhmmhdbbliaaGreatDoor
namespace Go.Wk
open Go Go.RowKit
def cutI (l:List UInt8):Option Nat:=l.findIdx? (·==47)
theorem Zja:∀ (l acc:List UInt8),Zgz l acc=match cutI l with|none=>[acc++l]|some i=>(acc++l.take i)::Zgz (l.drop (i+1)) []
 | [],acc=>by simp[Zgz,cutI]
 | c::l,acc=>by
  rw[Zgz]
  by_cases h:c=47
  ·subst h
   simp[cutI,List.findIdx?_cons]
  ·rw[if_neg h,Zja l]
   have hb:(c==47)=false:=by simpa using h
   simp only[cutI,List.findIdx?_cons,hb]
   cases h2:l.findIdx? (·==47) with
   | none=>simp
   | some i=>simp
theorem Zzs {l:List UInt8}{i:Nat}(h:cutI l=some i):i<l.length:=(List.findIdx?_eq_some_iff_findIdx_eq.1 h).1
theorem ZmW (s:ByteArray):firstIdx s 47=match cutI s.data.toList with|none => -1|some i=>(i:Int):=by
 unfold firstIdx cutI
 have hsz:s.size=s.data.toList.length:=rfl
 have key:∀ (l:List UInt8) (f:Nat->UInt8),(∀ i,i<l.length->f i=l.getD i 0)->(List.range l.length).find? (fun i=>f i==47)=l.findIdx? (·==47):=by
  intro l
  induction l with
  | nil=>intro f _;rfl
  | cons c l ih =>
   intro f hf
   rw[List.length_cons,List.range_succ_eq_map,List.find?_cons,List.findIdx?_cons]
   have h0:f 0=c:=by rw[hf 0 (by simp)];rfl
   rw[h0]
   cases hc:c==47 with
   | true=>rfl
   | false =>
    rw[List.find?_map]
    have:=ih (fun i=>f (i+1)) (fun i hi=>by rw[hf (i+1) (by simp;omega)];rfl)
    simp only[Function.comp_def]at this ⊢
    rw[show(fun x:Nat=>f (Nat.succ x)==47)=fun i=>f (i+1)==47 from rfl,this]
    cases l.findIdx? (·==47) <;> rfl
 have hk:=key s.data.toList (fun i=>s[i]!) (fun i hi=>by
  have:i<s.size:=hi
  rw[List.getD_eq_getElem?_getD,List.getElem?_eq_getElem hi]
  simp[getElem!_def,this]
  rfl)
 rw[hsz]
 rw[hk]
 cases s.data.toList.findIdx? (·==47) <;> rfl
end Go.Wk
namespace Go.Proofs.YtdlmhmmhdbbliaaGreatDoor
open Go Go.RowKit Go.Wk
attribute [local irreducible] W RL Does Zau Zak retQ Calls Pu Stp RD Qy Ay Zaj
theorem Zzf (args:Array Value)(w:World):(callFunc 236 args).run Tryz.prog w=((Extern.BytealgIndexByte.indexByte args).run Tryz.prog w).andThen fun v w' => .ok (.value v) w':=by
 rw[run_callFunc_extern Tryz.func236 (by kernel_rfl) (by kernel_rfl) (by kernel_rfl) (e:=Extern.BytealgIndexByte.indexByte) (by kernel_rfl)]
section
variable {n:Nat}{wr:World}{fr:Fr}{O:List It}{ty:TypeId}{pos:String}{af:Array Edge}{dst:Option Tmp}{g:Option (Nat × Bool)}{Kp:Value->List It->Prop}
theorem ZzL {x y:Operand}{ts:Array TypeId}{s:ByteArray}{c:Int}(hx:ev fr x=some (.string s))(hy:ev fr y=some (.int .u8 c))(kk:Kp (.int .i64 (firstIdx s c.toNat.toUInt8)) O) :
  Stp Tryz.prog n wr fr O ⟨dst,.call ⟨.value (.func 236),#[x,y],ts⟩,ty,pos,af,g⟩ Kp :=
 Zce fun a w hs=>by
  refine⟨_,w,O,?_,hs.old,hs.own,kk⟩
  have h1:=hs.sim.ev hx
  have h2:=hs.sim.ev hy
  have he:a.eval (.func 236) = .func (.func 236) #[] #[]:=rfl
  have hc:=Zzf #[.string s,.int .u8 c] w
  rw[run_indexByte_string,Result.andThen_ok]at hc
  simp[execOp,resolve,he,Deferred.ofValue,invoke,hc,h1,h2]
end
theorem ZwL (s:ByteArray)(c:Int)(w:World):Does Tryz.prog 224 [.string s,.int .u8 c] w (fun v O=>v = .int .i64 (firstIdx s c.toNat.toUInt8)/\O=[]):=by
 refine Zaa Tryz.func224 rfl rfl rfl rfl ?_
 repeat (first|(refine js ?_;(apply ZzL;rfl;rfl))|refine walk ?_)
 exact rtA
theorem ZmV (s:ByteArray)(c:UInt8)(h:(⟨#[c]⟩:ByteArray)=s):firstIdx s c=0:=by
 subst h
 have hs:(⟨#[c]⟩:ByteArray).size=1:=rfl
 unfold firstIdx
 rw[hs]
 have:(⟨#[c]⟩:ByteArray)[0]! = c:=rfl
 simp[List.range_succ,this]
theorem Zu9 {G:Prop}(h:G:=by(apply ZcY;rfl;rfl;exact hb)):G:=h
theorem ZwM (s:ByteArray)(c:UInt8)(w:World):Does Tryz.prog 222 [.string s,.string ⟨#[c]⟩] w (fun v O=>v = .int .i64 (firstIdx s c)/\O=[]):=by
 have hu:((c.toNat:Int)).toNat.toUInt8=c:=by simp
 have hi:=fun w'=>ZwL s (c.toNat:Int) w'
 rw[hu]at hi
 have hsz:(0:Int)<((⟨#[c]⟩:ByteArray).size:Int):=show(0:Int)<1 by decide
 by_cases he:(⟨#[c]⟩:ByteArray)=s
 ·have hb:decide ((⟨#[c]⟩:ByteArray)=s)=true:=decide_eq_true he
  have h0:=ZmV s c he
  refine Zaa Tryz.func222 rfl rfl rfl rfl ?_
  repeat (first|(apply RL_pu;rfl;exact Zu9)|refine walk1 ?_)
  exact ret_1 _ [] (.tmp rfl) .nil ⟨by rw[h0],rfl⟩
 ·have hb:decide ((⟨#[c]⟩:ByteArray)=s)=false:=decide_eq_false he
  refine Zaa Tryz.func222 rfl rfl rfl rfl ?_
  repeat (first|(apply RL_pu;rfl;(first|exact Zu9|(apply ZnC;rfl;rfl;decide;exact hsz)))|(refine js ?_;(refine Zac (fun w' _=>hi w') ?_))|refine walk1 ?_)
  exact rtA
theorem Zoz (s:ByteArray)(c:UInt8)(w:World):Does Tryz.prog 247 [.string s,.string ⟨#[c]⟩] w (fun v O=>v = .int .i64 (firstIdx s c)/\O=[]):=by
 have hi:=fun w'=>ZwM s c w'
 refine Zaa Tryz.func247 rfl rfl rfl rfl ?_
 repeat (first|(refine js ?_;(refine Zac (fun w' _=>hi w') ?_))|refine walk ?_)
 exact rtA
def itO (b1 b2 b3:Nat)(s p:ByteArray):List It:=[.blk b1 [.string s] 9,.blk b2 [.string p] 9,.blk b3 [.int .i64 0] 3]
def itV (b1 b2 b3:Nat):Value := .func (.func 246) #[] #[.pointer (some ⟨b2,0,none⟩),.pointer (some ⟨b1,0,none⟩),.pointer (some ⟨b3,0,none⟩)]
theorem Zk0 (s p:ByteArray)(w:World):Does Tryz.prog 231 [.string s,.string p,.int .i64 0] w (fun v O=>∃ b1 b2 b3,v=itV b1 b2 b3/\O=itO b1 b2 b3 s p):=by
 refine Zaa Tryz.func231 rfl rfl rfl rfl ?_
 apply W_seq
 apply W_region
 apply RL_st;rfl;(apply Stp_boxNf;rfl;(focus repeat (first|exact Nf.nil|apply Nf.cons));intro b1)
 apply RL_st;rfl;(apply Stp_boxNf;rfl;(focus repeat (first|exact Nf.nil|apply Nf.cons));intro b2)
 apply RL_st;rfl;(apply Stp_boxNf;rfl;(focus repeat (first|exact Nf.nil|apply Nf.cons));intro b3)
 repeat (first|(refine js ?_;(refine bx ?_;intro bk))|refine walk ?_)
 exact ret_1 _ (itO b1 b2 b3 s p) (.tmp rfl) SOA ⟨b1,b2,b3,rfl,rfl⟩
theorem Zlz (s p:ByteArray)(w:World):Does Tryz.prog 215 [.string s,.string p] w (fun v O=>∃ b1 b2 b3,v=itV b1 b2 b3/\O=itO b1 b2 b3 s p):=by
 have hi:=fun w'=>Zk0 s p w'
 refine Zaa Tryz.func215 rfl rfl rfl rfl ?_
 repeat (first|(refine js ?_;(apply Zag (h:=fun w' _ _=>hi w');rfl;rintro v O' ⟨b1,b2,b3,rfl,rfl⟩))|refine walk ?_)
 exact ret_1 _ (itO b1 b2 b3 s p) (.tmp rfl) SOA ⟨b1,b2,b3,rfl,rfl⟩
end Go.Proofs.YtdlmhmmhdbbliaaGreatDoor
namespace Go.Wk
open Go Go.RowKit
theorem ZfX {P:Program}{n:Nat}{wr:World}{x y:Code}{Q2:Exit->Act->World->Prop}{fr:Fr}{O:List It}(I:Fr->List It->Prop)(h:W P n wr x (fun e fr O=>e = .normal/\I fr O) fr O)(k:∀ a w fr' O',St n wr fr' O' a w->I fr' O'->y.wp P Q2 a w) :
  ∀ a w,St n wr fr O a w->(Code.seq x y).wp P Q2 a w:=by
 intro a w hs
 refine wp_seq (wp_mono (h a w hs) ?_)
 rintro e a' w' ⟨fr',O',hs',rfl,hi⟩
 exact k a' w' fr' O' hs' hi
theorem St.sub {n:Nat}{wr:World}{fr fr':Fr}{O O':List It}{a:Act}{w:World}(h:St n wr fr O a w)(hf:Sub fr' fr)(hO:SubO O' O):St n wr fr' O' a w:=⟨h.sim.sub hf,h.old,h.own.sub hO⟩
end Go.Wk
namespace Go.Proofs.YtdlmhmmhdbbliaaGreatDoor
open Go Go.RowKit Go.Wk
attribute [local irreducible] W RL Does Zau Zak retQ Calls Pu Stp RD Qy Ay Zaj RLI WI
def Asks (l b1 b2 b3:Nat)(ok:List UInt8->Bool)(OC OF:List It)(wr:World):Prop :=
 ∀ x rest:ByteArray,(x.size:Int)<=9223372036854775807->Zfr Tryz.prog l (.string x) wr (itO b1 b2 b3 rest ⟨#[47]⟩++OC) fun b O'=>b=ok x.data.toList/\(b=true->SubO (itO b1 b2 b3 rest ⟨#[47]⟩++OC) O')/\(b=false->SubO OF O')
theorem ZqC {G:Prop}(h:G:=by(apply Pu_loadB1;rfl;(focus repeat' constructor);rfl)):G:=h
theorem Zl4 (l b1 b2 b3:Nat)(ok:List UInt8->Bool)(OC OF:List It)(wr:World)(hY:Asks l b1 b2 b3 ok OC OF wr)(s:ByteArray)(hs:(s.size:Int)<=9223372036854775807) :
  Zaj Tryz.prog 246 [.func (.yield l) #[] #[],.pointer (some ⟨b2,0,none⟩),.pointer (some ⟨b1,0,none⟩),.pointer (some ⟨b3,0,none⟩)] wr (itO b1 b2 b3 s ⟨#[47]⟩++OC)
   (fun v O'=>v = .tuple #[]/\((Zgz s.data.toList []).all ok=true->SubO OC O')/\((Zgz s.data.toList []).all ok=false->SubO OF O')):=by
 obtain⟨res,hres⟩:∃ res,(Zgz s.data.toList []).all ok=res:=⟨_,rfl⟩
 rw[hres]
 have hix:=fun(t:ByteArray) w'=>Zoz t 47 w'
 unfold itO at *
 simp only[List.cons_append,List.nil_append]at *
 refine ZaG Tryz.func246 rfl rfl rfl rfl ?_
 repeat (first|refine walk ?_)
 refine Zao [(0,.func (.yield l) #[] #[]),(1,.pointer (some ⟨b2,0,none⟩)),(2,.pointer (some ⟨b1,0,none⟩)),(3,.pointer (some ⟨b3,0,none⟩))] [] (fun _:ByteArray=>[]) (fun g => .blk b1 [.string g] 9 :: .blk b2 [.string ⟨#[47]⟩] 9 :: .blk b3 [.int .i64 0] 3::OC)
  (fun g=>(g.size:Int)<=9223372036854775807/\(Zgz g.data.toList []).all ok=res) (fun g=>g.size) s SFA ?_ ⟨hs,hres⟩ ?_
 ·rw[List.append_nil];exact .refl _
 rintro g ⟨hg,hi⟩
 rw[List.append_nil]
 have hfi:=ZmW g
 rw[Zja]at hi
 cases hc:cutI g.data.toList with
 | none =>
  rw[hc]at hfi hi
  dsimp only at hfi hi
  have hix2:=hix g
  rw[hfi]at hix2
  have hsY:=hg
  repeat (first|(apply Zjp;rfl;rfl;rfl;(intro c h;cases h);rfl;(first|(apply Pu_loadB1;rfl;(focus repeat' constructor);rfl)|(apply Pu_move;rfl));rfl;rfl;exact hY _ _ hsY;rintro b O' ⟨rfl,hb2,hb3⟩)|(apply RL_pu;rfl;exact ZqC)|(refine js ?_;(refine Zac (fun w' _=>hix2 w') ?_))|refine walk1 ?_)
  refine Zbt ?_
  rw[List.nil_append,List.all_cons,List.all_nil,Bool.and_true]at hi
  refine Zwf O' (.refl _) ⟨rfl,fun h=>?_,fun h=>hb3 (by rw[hi];exact h)⟩
  exact(SubO.trans (SubO.right (itO b1 b2 b3 g ⟨#[47]⟩) OC) (hb2 (by rw[hi];exact h)))
 | some i =>
  rw[hc]at hfi hi
  dsimp only at hfi hi
  have hix2:=hix g
  rw[hfi]at hix2
  have hlt:=Zzs hc
  have hsz:g.size=g.data.toList.length:=rfl
  have hx0:(g.extract 0 i).data.toList=g.data.toList.take i:=by rw[ByteArray.data_extract];simp
  have hx1:(g.extract (i+1) g.size).data.toList=g.data.toList.drop (i+1):=by
   rw[ByteArray.data_extract]
   simp only[Array.toList_extract,List.extract_eq_take_drop]
   exact List.take_of_length_le (by rw[List.length_drop];omega)
  have hi0:(0:Int)<=(i:Int):=Int.natCast_nonneg i
  have hi1:(i:Int)<(g.data.toList.length:Int):=Int.ofNat_lt.2 hlt
  have hsY:((g.extract 0 i).size:Int)<=9223372036854775807:=by rw[ByteArray.size_extract];omega
  repeat (first|(apply Zjp;rfl;rfl;rfl;(intro c h;cases h);rfl;(first|(apply Pu_loadB1;rfl;(focus repeat' constructor);rfl)|(apply Pu_move;rfl));rfl;rfl;exact hY _ _ hsY;rintro b O' ⟨rfl,hb2,hb3⟩)|(apply RL_pu;rfl;(apply Zhs;rfl;rfl;omega;omega))|(refine js ?_;(refine Zac (fun w' _=>hix2 w') ?_))|refine walk1 ?_)
  rw[List.nil_append,List.all_cons]at hi
  have hx2:(g.extract 0 (Int.toNat ((i:Int)+0))).data.toList=g.data.toList.take i:=by rw[Int.add_zero];exact hx0
  rw[hx2]at hb2 hb3
  apply Zdx (.inl rfl);rfl;(intro c h;cases h);(apply Pu_not;rfl)
  refine Zbt ?_
  apply thenQ_n
  rw[hx2]
  refine Zaf rfl (fun h=>?_) (fun h=>?_)
  ·simp only[Bool.not_eq_true']at h
   rw[h,Bool.false_and]at hi
   subst hi
   repeat (first|refine walk ?_)
   exact ZAf O' (.refl _) ⟨rfl,fun h2=>(by cases h2),fun _=>hb3 h⟩
  ·simp only[Bool.not_eq_false']at h
   rw[h,Bool.true_and]at hi
   have hlen:(((⟨#[47]⟩:ByteArray).size:Nat):Int)=1:=rfl
   have htn:((i:Int)+(((⟨#[47]⟩:ByteArray).size:Nat):Int)).toNat=i+1:=by rw[hlen];omega
   refine Zb0 (fr':=[(7,.int .i64 i),(0,.func (.yield l) #[] #[]),(1,.pointer (some ⟨b2,0,none⟩)),(2,.pointer (some ⟨b1,0,none⟩)),(3,.pointer (some ⟨b3,0,none⟩))]) (O' := .blk b1 [.string g] 9 :: .blk b2 [.string ⟨#[47]⟩] 9 :: .blk b3 [.int .i64 0] 3::OC) SFA (hb2 h) ?_
   repeat (first|(apply RL_pu;rfl;(apply ZkN;rfl;rfl;omega;omega))|refine walk1 ?_)
   refine⟨g.extract ((i:Int)+(((⟨#[47]⟩:ByteArray).size:Nat):Int)).toNat g.size,?_,⟨?_,?_⟩,SFA,?_⟩
   ·rw[htn,ByteArray.size_extract];omega
   ·rw[htn,ByteArray.size_extract];omega
   ·rw[htn,hx1];exact hi
   ·rw[List.append_nil];exact .refl _
def okP (s:ByteArray)(l:List UInt8):Bool:=decide (s.size<=60)&&Zwm l
theorem Zy7 (s:ByteArray):(Zgz s.data.toList []).all (okP s)=ZgU s:=by
 have hne:Zgz s.data.toList []≠[]:=by
  rw[Zja];split <;> simp
 unfold ZgU okP
 by_cases h:s.size<=60
 ·simp[h]
 ·cases hc:Zgz s.data.toList [] with
  | nil=>exact absurd hc hne
  | cons x l=>simp[h]
theorem Zwl (l:List UInt8):Zwm l=(Zdd 1 14 31 l&&!(match l with|c::_=>decide (c=46)||decide (c=45)|[]=>false)):=rfl
def ZBg (s:ByteArray)(w:World):Ending->World->Prop:=fun e w'=>∃ v O,e = .returned v/\Bel w.heap.size w w'/\Zay w.heap.size O w'/\v = .bool (ZgU s)/\O=[]
theorem ZpG {n:Nat}{wr:World}{fr:Fr}{O:List It}{a:Act}{w:World}{D:Nat}(hs:St n wr fr (Zdp D::O) a w):St n wr fr O a (w.putObj D (.deferred none)):=by
 have hin:=hs.own.inb _ List.mem_cons_self D rfl
 refine⟨hs.sim,hs.old.trans ⟨⟨rfl,rfl,rfl,by rw[Zd7];exact Nat.le_refl _,fun i hi=>World.putObj_heap_other (by omega)⟩⟩,hs.own.tail.congr (by rw[Zd7];exact Nat.le_refl _) fun b ⟨i,hi,hb⟩=>World.putObj_heap_other fun e=>?_⟩
 exact(List.pairwise_cons.1 hs.own.sep).1 i hi D rfl (e▸hb)
theorem ZjR (s:ByteArray)(w:World){fr:Fr}{O R:List It}{a:Act}{w':World}{D br:Nat}{b:Bool}(hs:St 28 w fr (Zdp D::O) a w')(h2:Wk.look fr 2=some (.pointer (some ⟨br,0,none⟩)))(hp:Pick (.blk br [.bool b] 4) O R)(hb:b=ZgU s) :
  bodyPostM Fence.wide 0 Tryz.prog Tryz.f180 (ZBg s w) .ret (actD (Zg8 D) a) w':=by
 have hK:=Zdp.at (hs.own.sat _ List.mem_cons_self)
 have hs2:=ZpG hs
 refine⟨by simp,.inl ⟨_,_,rfl,run_takeDeferred hK,?_⟩⟩
 refine⟨.bool b,?_,_,[],rfl,hs2.old,Zay.nil _ _,by rw[hb],rfl⟩
 have hc:(w'.putObj D (.deferred none)).cell? ⟨br,0,none⟩=some (.bool b):=by
  rw[ZcU (hs2.own.of hp)];rfl
 have hres:Tryz.f180.results=[ResultVar.cell 2 4].toArray:=rfl
 show(results Tryz.f180 a.tmps).run Tryz.prog _=_
 unfold results
 rw[hres,List.mapM_toArray]
 simp only[Sem.run_bind,Sem.run_map]
 rw[Zc8 (P:=Tryz.prog) hs2 _ (fun _=>rfl) (fun _ _=>rfl) [ResultVar.cell 2 4] [.bool b] ⟨_,[],rfl,⟨_,h2,fun w3 hB hH=>?_⟩,rfl⟩]
 ·simp only[Result.andThen_ok,Sem.run_pure]
  rfl
 ·rw[ZeF]
  rw[ZcU (hH.of hp)];rfl
instance : ZeroT Tryz.prog 111 [.nilFunc]:=⟨by kernel_rfl⟩
theorem ZlR (s:ByteArray)(hs:(s.size:Int)<=9223372036854775807)(w:World):Does Tryz.prog 180 [.string s] w (fun v O=>v = .bool (ZgU s)/\O=[]):=by
 unfold Does
 refine Zr9 Tryz.func180 rfl rfl rfl ?_
 intro a0 hst
 -- Zaa Tryz.func180
 refine ZfX (fun fr' O'=>∃ bs br,Sub [(1,.pointer (some ⟨bs,0,none⟩)),(2,.pointer (some ⟨br,0,none⟩))] fr'/\SubO [.blk bs [.string s] 9,.blk br [.bool false] 4] O') ?_ ?_ a0 w hst
 ·apply W_region
  apply RL_st;rfl;(apply Stp_boxNf;rfl;(focus repeat' constructor);intro bs)
  apply RL_st;rfl;(apply Stp_alloc;intro br)
  apply RL_nil
  exact⟨rfl,bs,br,SFA,SOA⟩
 rintro a1 w1 fr1 O1 hs0 ⟨bs,br,hf1,hO1⟩
 have hs1:=hs0.sub hf1 hO1
 clear hf1 hO1 hs0 hst a0 fr1 O1
 refine ZfX (fun fr' O'=>∃ bf b1 b2 b3 b4,Sub [(1,.pointer (some ⟨bs,0,none⟩)),(2,.pointer (some ⟨br,0,none⟩)),(3,.pointer (some ⟨bf,0,none⟩))] fr'/\SubO (.blk bs [.string s] 9 :: .blk br [.bool false] 4 :: .blk bf [ofV b1 b2 b3 b4] 111::ofO 1 14 31 b1 b2 b3 b4) O') ?_ ?_ a1 w1 hs1
 ·repeat (first|(refine js ?_;(first|(apply Zag (h:=fun w' _ _=>Zgk 1 14 31 w');rfl;rintro v O' ⟨b1,b2,b3,b4,rfl,rfl⟩)|(refine bx ?_;intro bk)))|refine walk ?_)
  exact⟨rfl,_,b1,b2,b3,b4,SFA,SOA⟩
 rintro a2 w2 fr2 O2 hs0 ⟨bf,b1,b2,b3,b4,hf2,hO2⟩
 have hs2:=hs0.sub hf2 hO2
 clear hf2 hO2 hs0 hs1 a1 w1 fr2 O2
 refine wp_seq ?_
 refine ZfX (fun fr' O'=>∃ c1 c2 c3,Sub [(1,.pointer (some ⟨bs,0,none⟩)),(2,.pointer (some ⟨br,0,none⟩)),(3,.pointer (some ⟨bf,0,none⟩)),(7,itV c1 c2 c3)] fr'/\SubO (itO c1 c2 c3 s ⟨#[47]⟩++(.blk bs [.string s] 9 :: .blk br [.bool false] 4 :: .blk bf [ofV b1 b2 b3 b4] 111::ofO 1 14 31 b1 b2 b3 b4)) O') ?_ ?_ a2 w2 hs2
 ·repeat (first|(apply RL_pu;rfl;exact ZqC)|(refine js ?_;(first|(apply Zag (h:=fun w' _ _=>Zlz s ⟨#[47]⟩ w');rfl;rintro v O' ⟨c1,c2,c3,rfl,rfl⟩)|(refine bx ?_;intro bk)))|refine walk1 ?_)
  exact⟨rfl,c1,c2,c3,SFA,.refl _⟩
 rintro a3 w3 fr3 O3 hs0 ⟨c1,c2,c3,hf3,hO3⟩
 have hs3:=hs0.sub hf3 hO3
 clear hf3 hO3 hs0 hs2 a2 w2 fr3 O3
 refine wp_block ?_
 refine ZpS (gf:=246) (lb:=[.pointer (some ⟨c2,0,none⟩),.pointer (some ⟨c1,0,none⟩),.pointer (some ⟨c3,0,none⟩)]) (fun jump O2=>SubO [.blk br [.bool false] 4] O2/\((jump=none/\ZgU s=true)\/(jump=some .ret/\ZgU s=false))) hs3 rfl ?_ ?_
 ·intro fn l D
  generalize hr:ZhS fn a3.tmps 8 _ _ D=r
  have hit:=Zl4 l c1 c2 c3 (okP s) (Za3 l r::Zdp D :: .blk bs [.string s] 9 :: .blk br [.bool false] 4 :: .blk bf [ofV b1 b2 b3 b4] 111::ofO 1 14 31 b1 b2 b3 b4) (Za3 l { r with state := .done,pending:=some .ret }::Zdp D::[.blk br [.bool false] 4]) w ?_ s hs
  ·refine hit.sub (by unfold itO ofO;exact SOA) fun v O' ⟨_,h1,h2⟩=>?_
   rw[Zy7]at h1 h2
   cases hz:ZgU s with
   | true=>exact⟨none,_,.ready,SubO.trans (by rw[<- hr];exact .refl _) (h1 hz),by decide,SOA,.inl ⟨rfl,rfl⟩⟩
   | false=>exact⟨some .ret,_,.done,h2 hz,by decide,.refl _,.inr ⟨rfl,rfl⟩⟩
  ·intro x rest hx
   refine ZlS (r:=r) (p:=8) (fr:=[(1,.pointer (some ⟨bs,0,none⟩)),(2,.pointer (some ⟨br,0,none⟩)),(3,.pointer (some ⟨bf,0,none⟩)),(7,itV c1 c2 c3)]) (a0:=a3) (O1:=itO c1 c2 c3 rest ⟨#[47]⟩++(Za3 l { r with state := .busy }::Zdp D :: .blk bs [.string s] 9 :: .blk br [.bool false] 4 :: .blk bf [ofV b1 b2 b3 b4] 111::ofO 1 14 31 b1 b2 b3 b4)) (by rw[<- hr];rfl) (by rw[<- hr];rfl) (by rw[<- hr];rfl) hs3.sim rfl (by unfold itO;exact(by repeat' constructor)) (by rw[<- hr];rfl) ?_
   apply Zdx (Or.inr ⟨_,rfl⟩);rfl;(intro c h;cases h);(apply Pu_assign;rfl)
   refine Zbt ⟨rfl,?_⟩
   have hbody:∀ Q fr O,(∀ b:Code,b=r.body->WI (Fence.wide.inRound l) [] Tryz.prog 28 w b Q fr O)->WI (Fence.wide.inRound l) [] Tryz.prog 28 w r.body Q fr O:=fun Q fr O h=>h _ rfl
   refine hbody _ _ _ fun b hb=>?_
   rw[<- hr]at hb
   dsimp only[ZhS]at hb
   subst hb
   unfold itO ofO
   simp only[List.cons_append,List.nil_append]
   refine Zqw (ZgM (ZbU ?_))
   have hsx:(s.size:Int)<=9223372036854775807:=hs
   by_cases hlong:(60:Int)<(s.size:Int)
   ·have h60:decide ((60:Int)<(s.size:Int))=true:=decide_eq_true hlong
    have hbad:false=okP s x.data.toList:=by
     unfold okP;rw[decide_eq_false (by omega),Bool.false_and]
    repeat (first|(apply Zdx (Or.inr ⟨_,rfl⟩);rfl;(intro c h;cases h);(first|(apply Pu_loadB1;rfl;(focus repeat' constructor);rfl)|(apply Pu_lenS;rfl)|(apply ZaC;rfl;rfl;exact h60)|(apply Pu_move;rfl)|(apply Pu_not;rfl)|(apply Pu_pickT;rfl;rfl)|(apply Pu_pickF;rfl;rfl)))|(refine Zjs rfl rfl rfl ?_)|(refine Znu (Or.inr ⟨_,rfl⟩) rfl rfl rfl rfl rfl ?_)|(refine Zbt ?_))
    refine thenQ_n ?_
    refine Zcq rfl (fun _=>?_) (fun h=>by cases h)
    refine ZgM (ZbU ?_)
    apply Zcf (Or.inr ⟨_,rfl⟩);(intro d hd;cases hd);(intro c h;cases h);(intro a w hs;exact ZdV a w)
    (apply Stp_storeNf;rfl;rfl;(focus repeat' constructor);(focus repeat (first|exact Nf.nil|apply Nf.cons));rfl;rfl;rfl;(focus repeat' constructor))
    refine Zbt ?_
    refine thenQ_n ?_
    refine Zjr ?_
    refine blockQ_r ?_
    exact⟨_,(by repeat' constructor),hbad,fun h=>(by cases h),fun _=>SOA⟩
   have h60:decide ((60:Int)<(s.size:Int))=false:=decide_eq_false hlong
   have hok:okP s x.data.toList=Zwm x.data.toList:=by
    unfold okP;rw[decide_eq_true (by omega),Bool.true_and]
   have hoc:=fun{base:Nat} {O:List It} {w':World} (hH:Zay base O w') (hO:SubO (ofO 1 14 31 b1 b2 b3 b4) O)=>Zk5 (a:=1) (b:=14) (m:=31) hx (by decide) hH hO
   rw[hok,Zwl]
   cases hn:Zdd 1 14 31 x.data.toList with
   | false =>
    rw[hn]at hoc
    have hbad:false=(false&&!(match x.data.toList with|c::_=>decide (c=46)||decide (c=45)|[]=>false)):=rfl
    repeat (first|(apply Zdx (Or.inr ⟨_,rfl⟩);rfl;(intro c h;cases h);(first|(apply Pu_loadB1;rfl;(focus repeat' constructor);rfl)|(apply Pu_lenS;rfl)|(apply ZaC;rfl;rfl;exact h60)|(apply Pu_move;rfl)|(apply Pu_not;rfl)|(apply Pu_pickT;rfl;rfl)|(apply Pu_pickF;rfl;rfl)))|(refine Zjs rfl rfl rfl ?_)|(refine Znu (Or.inr ⟨_,rfl⟩) rfl rfl rfl rfl rfl ?_)|(apply Zcf (Or.inr ⟨_,rfl⟩);(intro d hd;cases hd;rfl);(intro c h;cases h);(intro a w hs;exact Zfm (f:=195) (us:=[]) (cs:=[.pointer (some ⟨b1,0,none⟩),.pointer (some ⟨b2,0,none⟩),.pointer (some ⟨b3,0,none⟩),.pointer (some ⟨b4,0,none⟩)]) hs rfl);(apply Zar (f:=195) (us:=[]) (vs:=[.string x]) (cs:=[.pointer (some ⟨b1,0,none⟩),.pointer (some ⟨b2,0,none⟩),.pointer (some ⟨b3,0,none⟩),.pointer (some ⟨b4,0,none⟩)]) (h:=fun w' _ hH=>hoc hH (by unfold ofO;exact SOA));rfl;rfl;rintro v O' ⟨rfl,rfl⟩))|(refine Zbt ?_))
    refine thenQ_n ?_
    refine Zcq rfl (fun _=>?_) (fun h=>by cases h)
    refine ZgM (ZbU ?_)
    apply Zcf (Or.inr ⟨_,rfl⟩);(intro d hd;cases hd);(intro c h;cases h);(intro a w hs;exact ZdV a w)
    (apply Stp_storeNf;rfl;rfl;(focus repeat' constructor);(focus repeat (first|exact Nf.nil|apply Nf.cons));rfl;rfl;rfl;(focus repeat' constructor))
    refine Zbt ?_
    refine thenQ_n ?_
    refine Zjr ?_
    refine blockQ_r ?_
    exact⟨_,(by repeat' constructor),hbad,fun h=>(by cases h),fun _=>SOA⟩
   | true =>
    rw[hn]at hoc
    have hsz:=(Zke hn).1
    have hxz:(0:Int)<(x.size:Int):=by omega
    cases hxl:x.data.toList with
    | nil =>
     exfalso
     have h0:x.size=0:=by
      have:x.size=x.data.toList.length:=rfl
      rw[this,hxl];rfl
     omega
    | cons c tl =>
    have hxc:x.data.toList.getD (Int.toNat 0) 0=c:=by rw[hxl];rfl
    dsimp only
    by_cases h46:c=46
    ·subst h46
     have e46:decide (((46:UInt8).toNat:Int)=46)=true:=by decide
     have e45:=e46
     have hbad:false=(true&&!(decide ((46:UInt8)=46)||decide ((46:UInt8)=45))):=by decide
     repeat (first|(apply Zdx (Or.inr ⟨_,rfl⟩);rfl;(intro c h;cases h);(first|(apply Pu_loadB1;rfl;(focus repeat' constructor);rfl)|(apply Pu_lenS;rfl)|(apply ZaC;rfl;rfl;exact h60)|(apply Pu_move;rfl)|(apply Pu_not;rfl)|(apply Pu_pickT;rfl;rfl)|(apply Pu_pickF;rfl;rfl)|(apply ZcH;rfl;rfl;decide;exact hxz;exact hxc)|(apply Zaw;rfl;rfl;first|exact e46|exact e45)))|(refine Zjs rfl rfl rfl ?_)|(refine Znu (Or.inr ⟨_,rfl⟩) rfl rfl rfl rfl rfl ?_)|(apply Zcf (Or.inr ⟨_,rfl⟩);(intro d hd;cases hd;rfl);(intro c h;cases h);(intro a w hs;exact Zfm (f:=195) (us:=[]) (cs:=[.pointer (some ⟨b1,0,none⟩),.pointer (some ⟨b2,0,none⟩),.pointer (some ⟨b3,0,none⟩),.pointer (some ⟨b4,0,none⟩)]) hs rfl);(apply Zar (f:=195) (us:=[]) (vs:=[.string x]) (cs:=[.pointer (some ⟨b1,0,none⟩),.pointer (some ⟨b2,0,none⟩),.pointer (some ⟨b3,0,none⟩),.pointer (some ⟨b4,0,none⟩)]) (h:=fun w' _ hH=>hoc hH (by unfold ofO;exact SOA));rfl;rfl;rintro v O' ⟨rfl,rfl⟩))|(refine Zbt ?_))
     refine thenQ_n ?_
     refine Zcq rfl (fun _=>?_) (fun h=>by cases h)
     refine ZgM (ZbU ?_)
     apply Zcf (Or.inr ⟨_,rfl⟩);(intro d hd;cases hd);(intro c h;cases h);(intro a w hs;exact ZdV a w)
     (apply Stp_storeNf;rfl;rfl;(focus repeat' constructor);(focus repeat (first|exact Nf.nil|apply Nf.cons));rfl;rfl;rfl;(focus repeat' constructor))
     refine Zbt ?_
     refine thenQ_n ?_
     refine Zjr ?_
     refine blockQ_r ?_
     exact⟨_,(by repeat' constructor),hbad,fun h=>(by cases h),fun _=>SOA⟩
    have hne46:(c.toNat:Int)≠46:=fun e=>h46 (UInt8.toNat_inj.1 (by show c.toNat=46;omega))
    by_cases h45:c=45
    ·subst h45
     have e46:decide (((45:UInt8).toNat:Int)=46)=false:=by decide
     have e45:decide (((45:UInt8).toNat:Int)=45)=true:=by decide
     have hbad:false=(true&&!(decide ((45:UInt8)=46)||decide ((45:UInt8)=45))):=by decide
     repeat (first|(apply Zdx (Or.inr ⟨_,rfl⟩);rfl;(intro c h;cases h);(first|(apply Pu_loadB1;rfl;(focus repeat' constructor);rfl)|(apply Pu_lenS;rfl)|(apply ZaC;rfl;rfl;exact h60)|(apply Pu_move;rfl)|(apply Pu_not;rfl)|(apply Pu_pickT;rfl;rfl)|(apply Pu_pickF;rfl;rfl)|(apply ZcH;rfl;rfl;decide;exact hxz;exact hxc)|(apply Zaw;rfl;rfl;first|exact e46|exact e45)))|(refine Zjs rfl rfl rfl ?_)|(refine Znu (Or.inr ⟨_,rfl⟩) rfl rfl rfl rfl rfl ?_)|(apply Zcf (Or.inr ⟨_,rfl⟩);(intro d hd;cases hd;rfl);(intro c h;cases h);(intro a w hs;exact Zfm (f:=195) (us:=[]) (cs:=[.pointer (some ⟨b1,0,none⟩),.pointer (some ⟨b2,0,none⟩),.pointer (some ⟨b3,0,none⟩),.pointer (some ⟨b4,0,none⟩)]) hs rfl);(apply Zar (f:=195) (us:=[]) (vs:=[.string x]) (cs:=[.pointer (some ⟨b1,0,none⟩),.pointer (some ⟨b2,0,none⟩),.pointer (some ⟨b3,0,none⟩),.pointer (some ⟨b4,0,none⟩)]) (h:=fun w' _ hH=>hoc hH (by unfold ofO;exact SOA));rfl;rfl;rintro v O' ⟨rfl,rfl⟩))|(refine Zbt ?_))
     refine thenQ_n ?_
     refine Zcq rfl (fun _=>?_) (fun h=>by cases h)
     refine ZgM (ZbU ?_)
     apply Zcf (Or.inr ⟨_,rfl⟩);(intro d hd;cases hd);(intro c h;cases h);(intro a w hs;exact ZdV a w)
     (apply Stp_storeNf;rfl;rfl;(focus repeat' constructor);(focus repeat (first|exact Nf.nil|apply Nf.cons));rfl;rfl;rfl;(focus repeat' constructor))
     refine Zbt ?_
     refine thenQ_n ?_
     refine Zjr ?_
     refine blockQ_r ?_
     exact⟨_,(by repeat' constructor),hbad,fun h=>(by cases h),fun _=>SOA⟩
    have hne45:(c.toNat:Int)≠45:=fun e=>h45 (UInt8.toNat_inj.1 (by show c.toNat=45;omega))
    have e46:decide ((c.toNat:Int)=46)=false:=decide_eq_false hne46
    have e45:decide ((c.toNat:Int)=45)=false:=decide_eq_false hne45
    have hgood:true=(true&&!(decide (c=46)||decide (c=45))):=by rw[decide_eq_false h46,decide_eq_false h45];rfl
    repeat (first|(apply Zdx (Or.inr ⟨_,rfl⟩);rfl;(intro c h;cases h);(first|(apply Pu_loadB1;rfl;(focus repeat' constructor);rfl)|(apply Pu_lenS;rfl)|(apply ZaC;rfl;rfl;exact h60)|(apply Pu_move;rfl)|(apply Pu_not;rfl)|(apply Pu_pickT;rfl;rfl)|(apply Pu_pickF;rfl;rfl)|(apply ZcH;rfl;rfl;decide;exact hxz;exact hxc)|(apply Zaw;rfl;rfl;first|exact e46|exact e45)))|(refine Zjs rfl rfl rfl ?_)|(refine Znu (Or.inr ⟨_,rfl⟩) rfl rfl rfl rfl rfl ?_)|(apply Zcf (Or.inr ⟨_,rfl⟩);(intro d hd;cases hd;rfl);(intro c h;cases h);(intro a w hs;exact Zfm (f:=195) (us:=[]) (cs:=[.pointer (some ⟨b1,0,none⟩),.pointer (some ⟨b2,0,none⟩),.pointer (some ⟨b3,0,none⟩),.pointer (some ⟨b4,0,none⟩)]) hs rfl);(apply Zar (f:=195) (us:=[]) (vs:=[.string x]) (cs:=[.pointer (some ⟨b1,0,none⟩),.pointer (some ⟨b2,0,none⟩),.pointer (some ⟨b3,0,none⟩),.pointer (some ⟨b4,0,none⟩)]) (h:=fun w' _ hH=>hoc hH (by unfold ofO;exact SOA));rfl;rfl;rintro v O' ⟨rfl,rfl⟩))|(refine Zbt ?_))
    refine thenQ_n ?_
    refine Zcq rfl (fun h=>by cases h) (fun _=>?_)
    refine Zjq ?_
    refine blockQ_n ?_
    exact⟨_,(by repeat' constructor),hgood,fun _=>SubO.trans (by rw[<- hr];exact .refl _) (.refl _),fun h=>(by cases h)⟩
 ·rintro jump O2 D w4 ⟨hsub,⟨rfl,hz⟩|⟨rfl,hz⟩⟩ hs4
  ·have hs5:St 28 w [(2,.pointer (some ⟨br,0,none⟩))] [Zdp D,.blk br [.bool false] 4] a3 w4:=hs4.sub SFA (.cons .here hsub)
   show(Code.seq _ _).wp _ _ _ _
   have key:∀ c Q' Q3,WI Fence.wide (Zg8 D) Tryz.prog 28 w c Q' [(2,.pointer (some ⟨br,0,none⟩))] [Zdp D,.blk br [.bool false] 4]->(∀ e a' w',ZwB (Zg8 D) 28 w Q' e a' w'->Q3 e a' w')->c.wp Tryz.prog Q3 (actD (Zg8 D) a3) w4:=fun c Q' Q3 h hq=>(wpIn_wide (n:=0)).1 (wpIn_mono (h.at hs5) hq)
   refine key _ (fun e fr O=>e = .ret/\Sub [(2,.pointer (some ⟨br,0,none⟩))] fr/\SubO [Zdp D,.blk br [.bool true] 4] O) _ (ZgM (ZbU ?_)) ?_
   ·apply Zcf (.inl rfl);(intro d hd;cases hd);(intro c h;cases h);(intro a w hs;exact ZdV a w)
    (apply Stp_storeNf;rfl;rfl;(focus repeat' constructor);(focus repeat (first|exact Nf.nil|apply Nf.cons));rfl;rfl;rfl;(focus repeat' constructor))
    refine Zbt ?_
    refine thenQ_n ?_
    refine Zjr ?_
    exact⟨rfl,SFA,.refl _⟩
   ·rintro e a' w' ⟨hd,fr',O',hs',rfl,hf,hO⟩
    have h:=ZjR s w (hs'.sub hf hO) rfl (.here) hz.symm
    rw[ZeZ hd]at h
    exact h
  ·have hs5:St 28 w [(2,.pointer (some ⟨br,0,none⟩))] [Zdp D,.blk br [.bool false] 4] a3 w4:=hs4.sub SFA (.cons .here hsub)
   refine wp_ret ?_
   exact ZjR s w hs5 rfl .here hz.symm
end Go.Proofs.YtdlmhmmhdbbliaaGreatDoor
