/- Parts of the proof. -/
import Derived.Test.YtpipekfmecikmaaGreatDoorV25
import Derived.Test.YtpipekfmecikmaaGreatDoorV22
import Derived.Test.YtpipekfmecikmaaGreatDoorV16
import Derived.Test.YtpipekfmecikmaaGreatDoorV06
import Derived.Test.YtpipekfmecikmaaGreatDoorV17
import Derived.Test.YtpipekfmecikmaaGreatDoorV12
import Derived.Test.YtpipekfmecikmaaGreatDoorV13
set_option maxHeartbeats 4000000
set_option linter.unusedVariables false
set_option linter.unusedSimpArgs false
namespace Go.Proofs.YtpipekfmecikmaaGreatDoor
open Go Go.RowKit Go.Wk
attribute [local irreducible] W RL Does Zat Zaj retQ Calls Pu Stp RD Qy Ay Zak
theorem ZmG {G:Prop}(h:G:=by(first|exact PuI|(apply Zan;rfl;rfl;exact hb))):G:=h
theorem Ztf {G:Prop}(h:G:=by first|(apply Qy_y;rfl;exact ZmG)|exact QyA):G:=h
theorem Zpz {G:Prop}(h:G:=by repeat (first|exact QF.nil|(apply QF.mk;rfl;rfl;decide +kernel;exact Ztf))):G:=h
theorem ZmF {G:Prop}(h:G:=by(first|exact PuI|(apply Zaz;rfl;rfl;exact bj)|(apply ZbX;rfl;rfl;exact by1))):G:=h
theorem Zww {G:Prop}(h:G:=by first|(apply Qy_y;rfl;exact ZmF)|exact QyA):G:=h
theorem ZtQ {G:Prop}(h:G:=by(apply Zaz;rfl;rfl;exact bj)):G:=h
theorem ZvW {G G':Prop}(k:G')(h:Hold G'->G:=by intro k9;(first|refine und ?_|(apply RL_pu;rfl;exact ZtQ)|(apply RD_Q;rfl;rfl;decide +kernel;rfl;rfl;exact QyRfS2)|refine walk1 ?_|(refine jg ?_;(try intro F);(first|(refine ZaM (fun w' hw hO=>hot A3 c3 w' (ZaX DRule.len (hO.of (A := .row (.slice A3 R.length c3) 68 11 R.length (R.flatMap DRule.enc)) (by repeat' constructor)))) ?_)|(refine ZaM (fun w' hw hO=>hle A3 c3 w' (ZaX DRule.len (hO.of (A := .row (.slice A3 R.length c3) 68 11 R.length (R.flatMap DRule.enc)) (by repeat' constructor)))) ?_)|(refine stA ?_));first|refine⟨_,EndsA,QFRfS2,?_⟩|refine fin ?_)|(refine jn ?_;(try intro F);(first|(refine stA ?_)|(apply Zac;first|exact ZtQ|exact PuA));first|refine⟨_,EndsA,QFRfS2,?_⟩|refine fin ?_));exact k9.out):G:=h ⟨k⟩
theorem Zxq {G:Prop}(h:G:=by(first|exact ZtQ|(apply Zal;rfl;rfl;exact hb2))):G:=h
set_option maxHeartbeats 1000000 in
theorem Zld (Ar Az Al As:Option Addr)(cr cz cl cs:Nat)(a:DSource)(w:World)(hA:Zar w Ar Az Al As cr cz cl cs a)(hS:ZcK a) :
  Does Tryz.prog 127 [srcV Ar Az Al As cr cz cl cs a] w (fun v O=>v=ptV (ZaZ a a.shifts [] 0)/\O=[]):=by
 have hn:=hS.nr
 have hns:=hS.ns
 have hcap:=hA.s.le
 obtain⟨res,hres⟩:∃ res,ZaZ a a.shifts [] 0=res:=⟨_,rfl⟩
 rw[hres]
 refine Zaa Tryz.func127 rfl rfl rfl rfl ?_
 repeat (first|refine walk ?_|(refine jn ?_;(try intro F);(first|(refine bx ?_;intro bk)|(refine stA ?_)|(apply Zac;exact PuA));refine fin ?_)|(apply RD_W;rfl;intro bk))
 rename_i b1
 obtain⟨b2,hb2⟩:∃ b2,bk=b2:=⟨_,rfl⟩
 rw[hb2]
 clear hb2 bk
 refine Zai [(1,.pointer (some ⟨b1,0,none⟩)),(2,.pointer (some ⟨b2,0,none⟩))] [.blk b2 [.int .i64 0,.int .i64 0,.int .i64 0] 138,.blk b1 [.slice Ar a.rules.length cr,.slice Az a.zones.length cz,.slice Al a.links.length cl,.slice As a.shifts.length cs] 27]
  (fun k:Nat=>[(4,.int .i64 k)]) (fun _=>[]) (fun k=>k<=a.shifts.length/\ZaZ a (a.shifts.drop k) (a.shifts.take k) k=res) (fun k=>a.shifts.length - k) 0 SFA SOA ⟨Nat.zero_le _,hres⟩ ?_
 clear hres
 rintro k ⟨hk,hi⟩
 repeat (first|refine walk ?_|(refine jn ?_;(try intro F);(first|(refine bx ?_;intro bk)|(refine stA ?_)|(apply Zac;exact PuA));refine fin ?_)|(apply RD_W;rfl;intro bk))
 refine Zaf rfl (fun hc=>?_) (fun hc=>?_)
 ·simp only[decide_eq_true_eq,Int.ofNat_lt]at hc
  obtain⟨hna,hca⟩:=hA.s.rd k _ (List.getElem?_eq_getElem hc)
  have htk:=List.take_append_getElem hc
  rw[Zag hc,ZaZ]at hi
  rw[htk]at hi
  generalize a.shifts[k]=x at *
  have hof:=fun w' (hw:Bel w.heap.size w w')=>Zkf Ar Az Al As cr cz cl cs a x w' (hA.up hw) hn
  have hot:=fun A3 c3 w' h=>Zhz A3 c3 (ofB a.rules x) w' h
  have hle:=fun A3 c3 w' h=>ZcF A3 c3 (ofB a.rules x) w' h
  generalize ofB a.rules x=R at *
  generalize ZbH R=od at *
  obtain⟨ox,ob⟩:=od
  dsimp only at hi hot
  by_cases hR:R=[]
  ·rw[if_pos hR]at hi
   subst hi
   have hb:decide ((R.length:Int)=0)=true:=by rw[hR];rfl
   have hnb:=hna
   have hcb:=hca
   simp only[ptV,plV,Zaq.enc]
   repeat (first|(apply RL_pu;rfl;exact ZmG)|(apply RD_Q;rfl;rfl;decide +kernel;rfl;rfl;exact Ztf)|refine walk1 ?_|(refine jg ?_;(try intro F);(first|(apply Zae (h:=fun w' hw _=>hof w' hw);rfl;rintro v O' ⟨A3,c3,rfl,rfl⟩)|(refine bx ?_;intro bk)|(refine stA ?_));first|refine⟨_,EndsA,Zpz,?_⟩|refine fin ?_)|(refine jn ?_;(try intro F);(first|(refine bx ?_;intro bk)|(refine stA ?_)|(apply Zac;first|exact ZmG|exact PuA));first|refine⟨_,EndsA,Zpz,?_⟩|refine fin ?_)|(apply RD_W;rfl;intro bk))
   exact rtC
  rw[if_neg hR]at hi
  have hb:decide ((R.length:Int)=0)=false:=decide_eq_false (fun h=>hR (List.eq_nil_of_length_eq_zero (by omega)))
  obtain⟨m,hm⟩:∃ m,memB x (a.shifts.take k)=m:=⟨_,rfl⟩
  rw[hm]at hi
  have htl:(a.shifts.take k).length=k:=by rw[List.length_take];omega
  have hgt:∀ j,j<k->(a.shifts.take k)[j]?=a.shifts[j]?:=fun j hj=>by rw[List.getElem?_take,if_pos hj]
  generalize a.shifts.take k=L at *
  have hnb:=hna
  have hcb:=hca
  repeat (first|(apply RL_pu;rfl;exact ZmG)|(apply RD_Q;rfl;rfl;decide +kernel;rfl;rfl;exact Ztf)|refine walk1 ?_|(refine jg ?_;(try intro F);(first|(apply Zae (h:=fun w' hw _=>hof w' hw);rfl;rintro v O' ⟨A3,c3,rfl,rfl⟩)|(refine bx ?_;intro bk)|(refine stA ?_));first|refine⟨_,EndsA,Zpz,?_⟩|refine fin ?_)|(refine jn ?_;(try intro F);(first|(refine bx ?_;intro bk)|(refine stA ?_)|(apply Zac;first|exact ZmG|exact PuA));first|refine⟨_,EndsA,Zpz,?_⟩|refine fin ?_)|(apply RD_W;rfl;intro bk))
  generalize bk=b5
  refine Zai [(1,.pointer (some ⟨b1,0,none⟩)),(2,.pointer (some ⟨b2,0,none⟩)),(4,.int .i64 k),(5,.pointer (some ⟨b5,0,none⟩)),(6,.slice A3 R.length c3)] [.blk b5 [.int .i64 4,.int .i64 k,.int .i64 0] 138,.row (.slice A3 R.length c3) 68 11 R.length (R.flatMap DRule.enc),.blk b2 [.int .i64 0,.int .i64 0,.int .i64 0] 138,.blk b1 [.slice Ar a.rules.length cr,.slice Az a.zones.length cz,.slice Al a.links.length cl,.slice As a.shifts.length cs] 27]
   (fun j:Nat=>[(7,.int .i64 j)]) (fun _=>[]) (fun j=>j<=k/\memB x (L.drop j)=m) (fun j=>k - j) 0 SFA SOA ⟨Nat.zero_le _,hm⟩ ?_
  clear hm
  rintro j ⟨hj,hmj⟩
  by_cases hjk:j<k
  ·have bj:decide ((j:Int)<(k:Int))=true:=decide_eq_true (by omega)
   clear hnb hcb
   obtain⟨hnb,hcb⟩:=hA.s.rd j _ (List.getElem?_eq_getElem (show j<a.shifts.length by omega))
   have hg:=hgt j hjk
   have hjl:j<L.length:=by omega
   rw[List.getElem?_eq_getElem hjl,List.getElem?_eq_getElem (show j<a.shifts.length by omega)]at hg
   simp only[Option.some.injEq]at hg
   rw[Zag hjl,ZhO,hg]at hmj
   generalize a.shifts[j]=y at *
   by_cases hyx:y=x
   ·have by1:decide (y=x)=true:=decide_eq_true hyx
    rw[by1,Bool.true_or]at hmj
    subst hmj
    rw[if_pos rfl]at hi
    subst hi
    simp only[ptV,plV,Zaq.enc]
    repeat (first|(apply RL_pu;rfl;exact ZmF)|(apply RD_Q;rfl;rfl;decide +kernel;rfl;rfl;exact Zww)|refine walk1 ?_|(refine jn ?_;(try intro F);(first|(refine bx ?_;intro bk)|(refine stA ?_)|(apply Zac;first|exact ZmF|exact PuA));first|refine⟨_,EndsA,QFRfS1,?_⟩|refine fin ?_)|(apply RD_W;rfl;intro bk))
    exact rtC
   ·have by1:decide (y=x)=false:=decide_eq_false hyx
    rw[by1,Bool.false_or]at hmj
    repeat (first|(apply RL_pu;rfl;exact ZmF)|(apply RD_Q;rfl;rfl;decide +kernel;rfl;rfl;exact Zww)|refine walk1 ?_|(refine jn ?_;(try intro F);(first|(refine bx ?_;intro bk)|(refine stA ?_)|(apply Zac;first|exact ZmF|exact PuA));first|refine⟨_,EndsA,QFRfS1,?_⟩|refine fin ?_)|(apply RD_W;rfl;intro bk))
    exact⟨j+1,OA,⟨OA,hmj⟩,SFA,SOA⟩
  ·have bj:decide ((j:Int)<(k:Int))=false:=decide_eq_false (by omega)
   rw[List.drop_eq_nil_of_le (by omega)]at hmj
   rw[show memB x []=false from rfl]at hmj
   subst hmj
   rw[if_neg (by decide)]at hi
   generalize Zah R=lt at *
   by_cases hl:lt=0
   ·subst hl
    cases ob with
    | false =>
     rw[if_pos (.inr rfl)]at hi
     subst hi
     simp only[ptV,plV,Zaq.enc]
     repeat (first|refine ZvW ?_|(refine jg ?_;(try intro F);(refine bx ?_;intro bk);first|refine⟨_,EndsA,QFRfS2,?_⟩|refine fin ?_)|(refine jn ?_;(try intro F);(refine bx ?_;intro bk);first|refine⟨_,EndsA,QFRfS2,?_⟩|refine fin ?_)|(apply RD_W;rfl;intro bk))
     exact rtC
    | true =>
     rw[if_neg (by rintro(h|h);exact h rfl;cases h)]at hi
     repeat (first|refine ZvW ?_|(refine jg ?_;(try intro F);(refine bx ?_;intro bk);first|refine⟨_,EndsA,QFRfS2,?_⟩|refine fin ?_)|(refine jn ?_;(try intro F);(refine bx ?_;intro bk);first|refine⟨_,EndsA,QFRfS2,?_⟩|refine fin ?_)|(apply RD_W;rfl;intro bk))
     exact⟨k+1,OA,⟨OA,hi⟩,SFA,SOA⟩
   ·rw[if_pos (.inl hl)]at hi
    subst hi
    have hb2:(!decide (lt=0))=true:=by rw[decide_eq_false hl];rfl
    simp only[ptV,plV,Zaq.enc]
    repeat (first|refine und ?_|(apply RL_pu;rfl;exact Zxq)|(apply RD_Q;rfl;rfl;decide +kernel;rfl;rfl;exact QyRfS3)|refine walk1 ?_|(refine jg ?_;(try intro F);(first|(refine ZaM (fun w' hw hO=>hot A3 c3 w' (ZaX DRule.len (hO.of (A := .row (.slice A3 R.length c3) 68 11 R.length (R.flatMap DRule.enc)) (by repeat' constructor)))) ?_)|(refine ZaM (fun w' hw hO=>hle A3 c3 w' (ZaX DRule.len (hO.of (A := .row (.slice A3 R.length c3) 68 11 R.length (R.flatMap DRule.enc)) (by repeat' constructor)))) ?_)|(refine bx ?_;intro bk)|(refine stA ?_));first|refine⟨_,EndsA,QFRfS3,?_⟩|refine fin ?_)|(refine jn ?_;(try intro F);(first|(refine bx ?_;intro bk)|(refine stA ?_)|(apply Zac;first|exact Zxq|exact PuA));first|refine⟨_,EndsA,QFRfS3,?_⟩|refine fin ?_)|(apply RD_W;rfl;intro bk))
    exact rtC
 ·simp only[decide_eq_false_iff_not,Int.ofNat_lt]at hc
  rw[List.drop_eq_nil_of_le (by omega),ZaZ]at hi
  subst hi
  repeat (first|refine walk ?_|(refine jn ?_;(try intro F);(first|(refine bx ?_;intro bk)|(refine stA ?_)|(apply Zac;exact PuA));refine fin ?_)|(apply RD_W;rfl;intro bk))
  exact rtC
def RapS:Prop:=∀ (A:Option Addr) (c:Nat) (l:List DRule) (w:World),RdSl w A c DRule.enc 11 l->l.length<=1000000->(Zcq l).2=0->Does Tryz.prog 191 [.slice A l.length c] w (fun v O=>v=apV (Zes l)/\O=[])
theorem ZgQ {G:Prop}(h:G:=by(first|(apply Zap;rfl;rfl;omega;omega;(intro w' _ hO;exact(ZaD (hO.of (A := .row (.slice An N.length cn) 9 1 N.length (N.flatMap ZaU)) (by repeat' constructor)) hg1).1))|(apply ZbW;rfl;(focus repeat' constructor);exact hg1))):G:=h
theorem Zpp {G:Prop}(h:G:=by first|(apply Qy_y;rfl;exact ZgQ)|exact QyA):G:=h
theorem ZjV {G:Prop}(h:G:=by repeat (first|exact QF.nil|(apply QF.mk;rfl;rfl;decide +kernel;exact Zpp))):G:=h
theorem ZtP {G:Prop}(h:G:=by(first|exact ZgQ|(apply Zal;rfl;rfl;exact hb2))):G:=h
theorem Zwv {G:Prop}(h:G:=by first|(apply Qy_y;rfl;exact ZtP)|exact QyA):G:=h
theorem ZwT {G:Prop}(h:G:=by repeat (first|exact QF.nil|(apply QF.mk;rfl;rfl;decide +kernel;exact Zwv))):G:=h
set_option maxHeartbeats 2000000 in
theorem Zqg (Ar Az Al As:Option Addr)(cr cz cl cs:Nat)(a:DSource)(w:World)(hP:RapS)(hA:Zar w Ar Az Al As cr cz cl cs a)(hS:ZcK a)(hV:SavI a) :
  Does Tryz.prog 126 [srcV Ar Az Al As cr cz cl cs a] w (fun v O=>v=ptV (ZeT a)/\O=[]):=by
 have hn:=hS.nr
 have hnm:=fun w' (hw:Bel w.heap.size w w')=>Zm8 Ar Az Al As cr cz cl cs a w' (hA.up hw) hn
 have hNm:=ZeJ a.rules []
 have hNl:=ZeK a.rules []
 unfold ZeT
 generalize Zbv a.rules []=N at *
 simp only[List.length_nil,Nat.zero_add]at hNl
 obtain⟨res,hres⟩:∃ res,Zcr a.rules N=res:=⟨_,rfl⟩
 rw[hres]
 refine Zaa Tryz.func126 rfl rfl rfl rfl ?_
 repeat (first|refine walk ?_|(refine jg ?_;(try intro F);(first|(apply Zae (h:=fun w' hw _=>hnm w' hw);rfl;rintro v O' ⟨An,cn,rfl,rfl⟩)|(refine bx ?_;intro bk)|(refine stA ?_));refine fin ?_)|(refine jn ?_;(try intro F);(first|(refine bx ?_;intro bk)|(refine stA ?_)|(apply Zac;exact PuA));refine fin ?_)|(apply RD_W;rfl;intro bk))
 rename_i b1
 obtain⟨b2,hb2⟩:∃ b2,bk=b2:=⟨_,rfl⟩
 rw[hb2]
 clear hb2 bk
 refine Zai [(1,.pointer (some ⟨b1,0,none⟩)),(2,.pointer (some ⟨b2,0,none⟩)),(4,.slice An N.length cn)] [.row (.slice An N.length cn) 9 1 N.length (N.flatMap ZaU),.blk b2 [.int .i64 0,.int .i64 0,.int .i64 0] 138,.blk b1 [.slice Ar a.rules.length cr,.slice Az a.zones.length cz,.slice Al a.links.length cl,.slice As a.shifts.length cs] 27]
  (fun k:Nat=>[(5,.int .i64 k)]) (fun _=>[]) (fun k=>k<=N.length/\Zcr a.rules (N.drop k)=res) (fun k=>N.length - k) 0 SFA SOA ⟨Nat.zero_le _,hres⟩ ?_
 clear hnm hres
 rintro k ⟨hk,hi⟩
 repeat (first|refine walk ?_|(refine jn ?_;(try intro F);(first|(refine bx ?_;intro bk)|(refine stA ?_)|(apply Zac;exact PuA));refine fin ?_)|(apply RD_W;rfl;intro bk))
 refine Zaf rfl (fun hc=>?_) (fun hc=>?_)
 ·simp only[decide_eq_true_eq,Int.ofNat_lt]at hc
  have hg1:(N.flatMap ZaU)[k*1]?=some (.string N[k]):=by
   have:=Zao (enc:=ZaU) (fun _=>rfl) N k _ 0 (.string N[k]) (List.getElem?_eq_getElem hc) rfl
   simpa using this
  have hxm:=hNm _ (List.getElem_mem hc)
  rw[Zag hc,Zcr]at hi
  generalize N[k]=x at *
  have hxs:x.size<=1000000000:=by
   rcases hxm with h|⟨r,hr,rfl⟩
   ·cases h
   ·exact(hS.rs r hr).1
  have hof:=fun w' (hw:Bel w.heap.size w w')=>Zkf Ar Az Al As cr cz cl cs a x w' (hA.up hw) hn
  have hset:=fun w'=>ZrM x (by omega) w'
  have hRs:∀ r∈ofB a.rules x,r∈a.rules:=fun r h=>Znv h
  have hRl:=ZhL a.rules x
  have hck:=fun A3 c3 w' (hw:Bel w.heap.size w w') h=>Znm A3 c3 (ofB a.rules x) w' h (by omega) (fun r hr=>⟨hV r (hRs r hr),by have:=(hS.rs r (hRs r hr)).2;omega⟩)
  have hap:=fun(hz:(Zcq (ofB a.rules x)).2=0) A3 c3 w' (hw:Bel w.heap.size w w') h=>hP A3 c3 (ofB a.rules x) w' h (by omega) hz
  have hru0:=fun(i:Nat) (hi:i<=1000000) w' (hw:Bel w.heap.size w w')=>Zlg Ar Az Al As cr cz cl cs a x i w' (hA.up hw) hn hi
  have hcl:=ZoN (ofB a.rules x)
  have har:=Zit (ofB a.rules x)
  unfold ZbM at hi
  generalize ofB a.rules x=R at *
  cases hsb:setB x with
  | false =>
   rw[hsb]at hi hset
   rw[if_pos rfl]at hi
   dsimp only at hi
   have hru:=hru0 0 (Nat.zero_le _)
   generalize ZbN x a.rules 0 0=pl at *
   obtain⟨p1,p2,p3⟩:=pl
   simp only[plV,Zaq.enc]at hru
   subst hi
   simp only[ptV,plV,Zaq.enc]
   repeat (first|(apply RL_pu;rfl;exact ZgQ)|(apply RD_Q;rfl;rfl;decide +kernel;rfl;rfl;exact Zpp)|refine walk1 ?_|(refine jg ?_;(try intro F);(first|(apply Zae (h:=fun w' hw _=>hof w' hw);rfl;rintro v O' ⟨A3,c3,rfl,rfl⟩)|(refine Zab (fun w' _=>hset w') ?_)|(refine Zab hru ?_)|(refine bx ?_;intro bk)|(refine stA ?_));first|refine⟨_,EndsA,ZjV,?_⟩|refine fin ?_)|(refine jn ?_;(try intro F);(first|(refine bx ?_;intro bk)|(refine stA ?_)|(apply Zac;first|exact ZgQ|exact PuA));first|refine⟨_,EndsA,ZjV,?_⟩|refine fin ?_)|(apply RD_W;rfl;intro bk))
   exact rtC
  | true =>
   rw[hsb]at hi hset
   rw[if_neg (by decide)]at hi
   generalize Zcq R=rc at *
   obtain⟨ci,ce⟩:=rc
   dsimp only at hi hck hcl hap
   by_cases hce:ce=0
   ·subst hce
    replace hap:=hap rfl
    rw[if_neg (fun h=>h rfl)]at hi
    generalize Zes R=ap at *
    cases ap with
    | none =>
     simp only[apV,Zad.enc,dEv0]at hap
     dsimp only at hi
     repeat (first|(apply RL_pu;rfl;exact ZgQ)|(apply RD_Q;rfl;rfl;decide +kernel;rfl;rfl;exact Zpp)|refine walk1 ?_|(refine jg ?_;(try intro F);(first|(apply Zae (h:=fun w' hw _=>hof w' hw);rfl;rintro v O' ⟨A3,c3,rfl,rfl⟩)|(refine Zab (fun w' _=>hset w') ?_)|(refine ZaM (fun w' hw hO=>hck A3 c3 w' hw (ZaX DRule.len (hO.of (A := .row (.slice A3 R.length c3) 68 11 R.length (R.flatMap DRule.enc)) (by repeat' constructor)))) ?_)|(refine ZaM (fun w' hw hO=>hap A3 c3 w' hw (ZaX DRule.len (hO.of (A := .row (.slice A3 R.length c3) 68 11 R.length (R.flatMap DRule.enc)) (by repeat' constructor)))) ?_)|(refine bx ?_;intro bk)|(refine stA ?_));first|refine⟨_,EndsA,ZjV,?_⟩|refine fin ?_)|(refine jn ?_;(try intro F);(first|(refine bx ?_;intro bk)|(refine stA ?_)|(apply Zac;first|exact ZgQ|exact PuA));first|refine⟨_,EndsA,ZjV,?_⟩|refine fin ?_)|(apply RD_W;rfl;intro bk))
     exact⟨k+1,OA,⟨OA,hi⟩,SFA,SOA⟩
    | some e =>
     obtain⟨j,hj,hjl⟩:=har e rfl
     obtain⟨ey,er,en⟩:=e
     dsimp only at hj
     subst hj
     simp only[apV,Zad.enc]at hap
     simp only[Int.toNat_natCast]at hi
     have hru:=hru0 j (by omega)
     generalize ZbN x a.rules j 0=pl at *
     obtain⟨p1,p2,p3⟩:=pl
     simp only[plV,Zaq.enc]at hru
     subst hi
     simp only[ptV,plV,Zaq.enc]
     repeat (first|(apply RL_pu;rfl;exact ZgQ)|(apply RD_Q;rfl;rfl;decide +kernel;rfl;rfl;exact Zpp)|refine walk1 ?_|(refine jg ?_;(try intro F);(first|(apply Zae (h:=fun w' hw _=>hof w' hw);rfl;rintro v O' ⟨A3,c3,rfl,rfl⟩)|(refine Zab (fun w' _=>hset w') ?_)|(refine ZaM (fun w' hw hO=>hck A3 c3 w' hw (ZaX DRule.len (hO.of (A := .row (.slice A3 R.length c3) 68 11 R.length (R.flatMap DRule.enc)) (by repeat' constructor)))) ?_)|(refine ZaM (fun w' hw hO=>hap A3 c3 w' hw (ZaX DRule.len (hO.of (A := .row (.slice A3 R.length c3) 68 11 R.length (R.flatMap DRule.enc)) (by repeat' constructor)))) ?_)|(refine Zab hru ?_)|(refine bx ?_;intro bk)|(refine stA ?_));first|refine⟨_,EndsA,ZjV,?_⟩|refine fin ?_)|(refine jn ?_;(try intro F);(first|(refine bx ?_;intro bk)|(refine stA ?_)|(apply Zac;first|exact ZgQ|exact PuA));first|refine⟨_,EndsA,ZjV,?_⟩|refine fin ?_)|(apply RD_W;rfl;intro bk))
     exact rtC
   ·rw[if_pos hce]at hi
    dsimp only at hi
    have hb2:(!decide (ce=0))=true:=by rw[decide_eq_false hce];rfl
    have hru:=hru0 ci (by omega)
    generalize ZbN x a.rules ci 0=pl at *
    obtain⟨p1,p2,p3⟩:=pl
    simp only[plV,Zaq.enc]at hru
    subst hi
    simp only[ptV,plV,Zaq.enc]
    repeat (first|(apply RL_pu;rfl;exact ZtP)|(apply RD_Q;rfl;rfl;decide +kernel;rfl;rfl;exact Zwv)|refine walk1 ?_|(refine jg ?_;(try intro F);(first|(apply Zae (h:=fun w' hw _=>hof w' hw);rfl;rintro v O' ⟨A3,c3,rfl,rfl⟩)|(refine Zab (fun w' _=>hset w') ?_)|(refine ZaM (fun w' hw hO=>hck A3 c3 w' hw (ZaX DRule.len (hO.of (A := .row (.slice A3 R.length c3) 68 11 R.length (R.flatMap DRule.enc)) (by repeat' constructor)))) ?_)|(refine Zab hru ?_)|(refine bx ?_;intro bk)|(refine stA ?_));first|refine⟨_,EndsA,ZwT,?_⟩|refine fin ?_)|(refine jn ?_;(try intro F);(first|(refine bx ?_;intro bk)|(refine stA ?_)|(apply Zac;first|exact ZtP|exact PuA));first|refine⟨_,EndsA,ZwT,?_⟩|refine fin ?_)|(apply RD_W;rfl;intro bk))
    exact rtC
 ·simp only[decide_eq_false_iff_not,Int.ofNat_lt]at hc
  rw[List.drop_eq_nil_of_le (by omega),Zcr]at hi
  subst hi
  repeat (first|refine walk ?_|(refine jn ?_;(try intro F);(first|(refine bx ?_;intro bk)|(refine stA ?_)|(apply Zac;exact PuA));refine fin ?_)|(apply RD_W;rfl;intro bk))
  exact rtC
theorem Zdz (Ar Az Al As:Option Addr)(cr cz cl cs:Nat)(a:DSource)(e:DEra)(w:World)(hA:Zar w Ar Az Al As cr cz cl cs a)(hn:a.rules.length<=1000000) :
  Does Tryz.prog 251 [srcV Ar Az Al As cr cz cl cs a,.agg e.enc.toArray] w (ZiP 68 11 DRule.enc (ZaE a.rules e)):=by
 have hof:=fun w' (hw:Bel w.heap.size w w')=>Zkf Ar Az Al As cr cz cl cs a e.set w' (hA.up hw) hn
 unfold ZaE
 obtain⟨off,kind,save,set,format,til⟩:=e
 dsimp only at hof ⊢
 simp only[DEra.enc]
 refine Zaa Tryz.func251 rfl rfl rfl rfl ?_
 by_cases hk:kind=2
 ·subst hk
  rw[if_pos rfl]
  generalize ofB a.rules set=R at *
  repeat (first|(refine js ?_;(first|(apply Zae (h:=fun w' hw _=>hof w' hw);rfl;rintro v O' ⟨A3,c3,rfl,rfl⟩)|(refine bx ?_;intro bk)))|refine walk ?_)
  exact ret_1 _ [.row (.slice A3 R.length c3) 68 11 R.length (R.flatMap DRule.enc)] (.tmp rfl) SOA ⟨A3,c3,rfl,rfl⟩
 ·rw[if_neg hk]
  have hb:(!decide (kind=2))=true:=by rw[decide_eq_false hk];rfl
  refine ZdN 68 11 ?_
  repeat (first|(apply RL_pu;rfl;(apply Zal;rfl;rfl;exact hb))|(refine js ?_;(refine bx ?_;intro bk))|refine walk1 ?_)
  exact ret_1 _ [.row (.slice none 0 0) 68 11 0 []] (.tmp rfl) SOA ⟨none,0,rfl,rfl⟩
theorem ZtS {G:Prop}(h:G:=by(apply Zan;rfl;rfl;exact b1)):G:=h
theorem ZtR {G:Prop}(h:G:=by(first|(apply Zap;rfl;rfl;omega;omega;(intro w' _ hO;exact(ZaD (hO.of (A := .row (.slice A3 R.length c3) 68 11 R.length (R.flatMap DRule.enc)) (by repeat' constructor)) hg1).1))|(apply Zbt;rfl;(focus repeat' constructor);first|exact hs9|exact hs10))):G:=h
theorem Zwx {G:Prop}(h:G:=by first|(apply Qy_y;rfl;exact ZtR)|exact QyA):G:=h
theorem Zz0 {G:Prop}(h:G:=by repeat (first|exact QF.nil|(apply QF.mk;rfl;rfl;decide +kernel;exact Zwx))):G:=h
theorem Zxr {G:Prop}(h:G:=by(first|exact ZtS|(apply Zal;rfl;rfl;exact b2))):G:=h
theorem Zj8 (Ar Az Al As:Option Addr)(cr cz cl cs:Nat)(a:DSource)(e:DEra)(w:World)(hA:Zar w Ar Az Al As cr cz cl cs a)(hn:a.rules.length<=1000000) :
  Does Tryz.prog 252 [srcV Ar Az Al As cr cz cl cs a,.agg e.enc.toArray] w (StR (ZaG a.rules e)):=by
 have hst:=fun w' (hw:Bel w.heap.size w w')=>Zdz Ar Az Al As cr cz cl cs a e w' (hA.up hw) hn
 have hRl:(ZaE a.rules e).length<=1000000:=by
  unfold ZaE
  split
  ·exact Nat.le_trans (ZhL _ _) hn
  ·exact Nat.zero_le _
 unfold ZaG
 generalize ZaE a.rules e=R at *
 obtain⟨off,kind,save,set,format,til⟩:=e
 dsimp only at hst ⊢
 simp only[DEra.enc]at hst ⊢
 refine Zaa Tryz.func252 rfl rfl rfl rfl ?_
 by_cases hk1:kind=1
 ·subst hk1
  rw[if_pos rfl]
  repeat (first|refine walk ?_|(refine jn ?_;(try intro F);(first|(refine bx ?_;intro bk)|(apply Zac;exact PuA));refine fin ?_)|(apply RD_W;rfl;intro bk))
  exact ret_1 _ [.blk bk [.int .i64 save,.string ByteArray.empty] 155] (.tmp rfl) SOA (.inr ⟨bk,(save,ByteArray.empty),rfl,rfl,rfl⟩)
 have b1:decide (kind=1)=false:=decide_eq_false hk1
 rw[if_neg hk1]
 by_cases hk2:kind=2
 ·subst hk2
  rw[if_pos rfl]
  repeat (first|(apply RL_pu;rfl;exact ZtS)|(apply RD_Q;rfl;rfl;decide +kernel;rfl;rfl;exact QyRfR1)|refine walk1 ?_|(refine jg ?_;(try intro F);(first|(apply Zae (h:=fun w' hw _=>hst w' hw);rfl;rintro v O' ⟨A3,c3,rfl,rfl⟩)|(refine bx ?_;intro bk));first|refine⟨_,EndsA,QFRfR1,?_⟩|refine fin ?_)|(refine jn ?_;(try intro F);(first|(refine bx ?_;intro bk)|(apply Zac;first|exact ZtS|exact PuA));first|refine⟨_,EndsA,QFRfR1,?_⟩|refine fin ?_)|(apply RD_W;rfl;intro bk))
  refine ZdN 155 2 ?_
  refine Zai [(6,.slice A3 R.length c3)] [.row (.slice A3 R.length c3) 68 11 R.length (R.flatMap DRule.enc)] (fun g:StG=>[(5,.slice g.A g.m g.c),(7,.int .i64 g.k)]) (fun g=>[.row (.slice g.A g.m g.c) 155 2 g.m g.ys])
   (fun g=>g.k<=R.length/\g.m=g.k/\g.ys=((R.take g.k).map fun r=>(r.save,r.letter)).flatMap Za4) (fun g=>R.length - g.k) ⟨0,none,0,0,[]⟩ SFA SOA ⟨Nat.zero_le _,rfl,rfl⟩ ?_
  rintro⟨k,A1,c1,m,ys⟩ ⟨hkl,hm,hy⟩
  dsimp only at hkl hm hy ⊢
  repeat (first|refine walk ?_|(refine jn ?_;(try intro F);(first|(refine bx ?_;intro bk)|(apply Zac;exact PuA));refine fin ?_)|(apply RD_W;rfl;intro bk))
  refine Zaf rfl (fun hc=>?_) (fun hc=>?_)
  ·simp only[decide_eq_true_eq,Int.ofNat_lt]at hc
   have hg1:=Zao DRule.len R k _ 0 _ (List.getElem?_eq_getElem hc) rfl
   have hgn:∀ j v,(DRule.enc R[k])[j]?=some v->(R.flatMap DRule.enc)[k*11+j]?=some v:=fun j v hj=>Zao DRule.len R k _ j v (List.getElem?_eq_getElem hc) hj
   have hs9:=hgn 9 _ rfl
   have hs10:=hgn 10 _ rfl
   have htk:=List.take_append_getElem hc
   generalize R[k]=r at *
   simp only[DRule.enc]at hgn hg1
   repeat (first|(apply RL_pu;rfl;exact ZtR)|(apply RD_Q;rfl;rfl;decide +kernel;rfl;rfl;exact Zwx)|refine walk1 ?_|(refine jn ?_;(try intro F);(first|(apply ZaT;rfl;rfl;(intro A' c';(focus repeat' constructor));(intro w' _ hO;exact Zcu (hO.of (by repeat' constructor)));rfl;rfl;(simp only[maxLen];omega);omega;intro A' c' hc1 hc2 hc3)|(refine bx ?_;intro bk)|(apply Zac;first|exact ZtR|exact PuA));first|refine⟨_,EndsA,Zz0,?_⟩|refine fin ?_)|(apply RD_W;rfl;intro bk))
   exact⟨⟨k+1,A',c',m+1,ys++[.int .i64 r.save,.string r.letter]⟩,OA,⟨OA,OA,by dsimp only;rw[hy,<- htk];simp[Za4]⟩,SFA,SOA⟩
  ·obtain rfl:k=R.length:=by simp only[decide_eq_false_iff_not,Int.ofNat_lt]at hc;omega
   rw[List.take_length]at hy
   subst hm hy
   repeat (first|refine walk ?_|(refine jn ?_;(try intro F);(first|(refine bx ?_;intro bk)|(apply Zac;exact PuA));refine fin ?_)|(apply RD_W;rfl;intro bk))
   exact ret_1 _ [.row (.slice A1 R.length c1) 155 2 R.length ((R.map fun r=>(r.save,r.letter)).flatMap Za4)] (.tmp rfl) SOA (.inl ⟨A1,c1,by rw[List.length_map],by rw[List.length_map]⟩)
 have b2:(!decide (kind=2))=true:=by rw[decide_eq_false hk2];rfl
 rw[if_neg hk2]
 repeat (first|(apply RL_pu;rfl;exact Zxr)|(apply RD_Q;rfl;rfl;decide +kernel;rfl;rfl;exact QyRfR3)|refine walk1 ?_|(refine jn ?_;(try intro F);(first|(refine bx ?_;intro bk)|(apply Zac;first|exact Zxr|exact PuA));first|refine⟨_,EndsA,QFRfR3,?_⟩|refine fin ?_)|(apply RD_W;rfl;intro bk))
 exact ret_1 _ [.blk bk [.int .i64 0,.string ByteArray.empty] 155] (.tmp rfl) SOA (.inr ⟨bk,(0,ByteArray.empty),rfl,rfl,rfl⟩)
theorem Zgx (Ar Az Al As:Option Addr)(cr cz cl cs:Nat)(a:DSource)(e:DEra)(w:World)(hA:Zar w Ar Az Al As cr cz cl cs a)(hn:a.rules.length<=1000000) :
  Does Tryz.prog 252 [srcV Ar Az Al As cr cz cl cs a,.agg e.enc.toArray] w (ZiP 155 2 Za4 (ZaG a.rules e)) :=
 (Zj8 Ar Az Al As cr cz cl cs a e w hA hn).monoH fun v O base w' hR hH=>by
  rcases hR with h|⟨b,x,hl,rfl,rfl⟩
  ·exact⟨O,h,hH⟩
  ·rw[hl]
   exact⟨_,⟨some ⟨b,0,none⟩,1,rfl,rfl⟩,hH.toRow (m:=1) 2 rfl (by decide) (by simpa using Upd.here)⟩
def inO (x:Int):Bool:=decide (-54000<=x)&&decide (x<=54000)
theorem Zi5 (x:Int)(w:World):Does Tryz.prog 253 [.int .i64 x] w (fun v O=>v = .bool (inO x)/\O=[]):=by
 refine Zaa Tryz.func253 rfl rfl rfl rfl ?_
 repeat' (first|refine walk ?_|refine und ?_|(refine Zam rfl rfl rfl (fun hc=>?_) (fun hc=>?_))|(refine Zas rfl rfl rfl (fun hc=>?_) (fun hc=>?_))|(refine Zaf rfl (fun hc=>?_) (fun hc=>?_)))
 all_goals first|(refine ret_1 _ [] (.tmp rfl) .nil ⟨?_,rfl⟩;first|rfl|(simp only[*,Bool.true_and,Bool.false_and,Bool.true_or,Bool.false_or,Bool.not_true,Bool.not_false];done)|(simp_all [inO];done)|(simp_all [inO];omega)|(simp_all [inO];rw[Bool.eq_iff_iff];simp;omega))|(exfalso;simp_all [inO];done)|(exfalso;simp_all [inO];omega)|(exfalso;omega)
end Go.Proofs.YtpipekfmecikmaaGreatDoor
namespace Go.Wk
open Go Go.RowKit
section
variable {P:Program}{n:Nat}{wr:World}{fr:Fr}{O:List It}{ty:TypeId}
theorem ZyX {t t':TypeId}{x y:Operand}{i j:Int}(hx:ev fr x=some (.int .u8 i))(hy:ev fr y=some (.int .u8 j))(h:0<=i - j/\i - j<=255):Pu P n wr fr O (.binOp .sub t x y t') ty (.int .u8 (i - j)):=by
 have:=Zog (P:=P) (n:=n) (wr:=wr) (O:=O) (ty:=ty) (t:=t) (t':=t') hx hy
 rwa[IntWalk.u8_in _ h]at this
theorem catB (a b:List UInt8):(⟨a.toArray⟩++⟨b.toArray⟩:ByteArray)=⟨(a++b).toArray⟩:=by
 apply ByteArray.ext
 simp
theorem ZkM {t t':TypeId}{x y:Operand}{a b:List UInt8}(hx:ev fr x=some (.string ⟨a.toArray⟩))(hy:ev fr y=some (.string ⟨b.toArray⟩))(h:a.length+b.length<=9223372036854775807):Pu P n wr fr O (.binOp .add t x y t') ty (.string ⟨(a++b).toArray⟩):=by
 have:=Zgr (P:=P) (n:=n) (wr:=wr) (O:=O) (ty:=ty) (t:=t) (t':=t') hx hy h
 rwa[catB]at this
end
theorem Zkx (n:Int):(dig2 n).length=2:=rfl
def twoR (l:List UInt8)(i:Nat):Option Int :=
 match l[i]?,l[i+1]? with
 | some c,some d=>if digC c.toNat&&digC d.toNat then some (10*((c.toNat:Int) - 48)+((d.toNat:Int) - 48)) else none
 | _,_=>none
def ZcT (l:List UInt8):List Int->Nat->Int->Option Int
 | [],_,off=>some off
 | u::us,i,off=>if l.length<=1+2*i then some off else match twoR l (1+2*i) with|none=>none|some n=>ZcT l us (i+1) (off+n*u)
def endR (l:List UInt8):Option Int->Option Int
 | none=>none
 | some o=>if l.isEmpty\/ZaL (if l.head?=some 45 then -o else o)≠l then none else some (if l.head?=some 45 then -o else o)
def ZrX (l:List UInt8):Option Int:=endR l (ZcT l [3600,60,1] 0 0)
theorem Zrs (off:Int):ZaL off=[]\/(ZaL off).length % 2=1:=by
 unfold ZaL
 split
 ·exact .inl rfl
 ·right
  dsimp only
  simp only[List.length_cons,List.length_append,Zkx]
  repeat' split
  all_goals simp[Zkx]
theorem Zu9 (c d:UInt8):numU [c,d]=if digC c.toNat&&digC d.toNat then some (10*((c.toNat:Int) - 48)+((d.toNat:Int) - 48)) else none:=by
 unfold numU
 rw[if_neg (by simp)]
 have h:∀ c:UInt8,(decide (48<=c)&&decide (c<=57))=digC c.toNat:=fun c=>by
  unfold digC
  rw[Bool.eq_iff_iff]
  simp only[Bool.and_eq_true,decide_eq_true_eq,UInt8.le_iff_toNat_le]
  constructor
  ·intro ⟨h1,h2⟩
   have e1:(48:UInt8).toNat=48:=rfl
   have e2:(57:UInt8).toNat=57:=rfl
   omega
  ·intro ⟨h1,h2⟩
   have e1:(48:UInt8).toNat=48:=rfl
   have e2:(57:UInt8).toNat=57:=rfl
   omega
 simp only[List.all_cons,List.all_nil,Bool.and_true,h,List.foldl_cons,List.foldl_nil]
 split
 ·congr 1;omega
 ·rfl
theorem ZhJ (l:List UInt8)(ho:l.length % 2=1):∀ (us:List Int) (i:Nat) (off:Int),ZcG l us i off=ZcT l us i off
 | [],_,_=>rfl
 | u::us,i,off=>by
  rw[ZcG,ZcT]
  by_cases h:l.length<=1+2*i
  ·rw[if_pos h,if_pos h]
  ·rw[if_neg h,if_neg h]
   have h1:1+2*i<l.length:=by omega
   have h2:1+2*i+1<l.length:=by omega
   have e:(l.drop (1+2*i)).take 2=[l[1+2*i],l[1+2*i+1]]:=by
    rw[List.drop_eq_getElem_cons h1,List.take_succ_cons,List.drop_eq_getElem_cons h2,List.take_succ_cons,List.take_zero]
   rw[e,Zu9]
   unfold twoR
   rw[List.getElem?_eq_getElem h1,List.getElem?_eq_getElem h2]
   dsimp only
   generalize (if (digC l[1+2*i].toNat&&digC l[1+2*i+1].toNat)=true then some (10*((l[1+2*i].toNat:Int) - 48)+((l[1+2*i+1].toNat:Int) - 48)) else none)=q
   cases q with
   | none=>rfl
   | some n=>exact ZhJ l ho us (i+1) _
theorem ZlZ {l:List UInt8}(he:l.length % 2=0)(o:Option Int):endR l o=none:=by
 cases o with
 | none=>rfl
 | some o =>
  unfold endR
  dsimp only
  rw[if_pos]
  by_cases hl:l=[]
  ·left;rw[hl];rfl
  ·right
   intro e
   rcases Zrs (if l.head?=some 45 then -o else o) with h|h
   ·rw[h]at e;exact hl e.symm
   ·rw[e]at h;omega
theorem Zqx (l:List UInt8):ZaY l=endR l (ZcG l [3600,60,1] 0 0):=by
 unfold ZaY endR
 cases ZcG l [3600,60,1] 0 0 <;> rfl
theorem ZrW (l:List UInt8):ZrX l=ZaY l:=by
 rw[Zqx,ZrX]
 by_cases h:l.length % 2=1
 ·rw[ZhJ l h]
 ·rw[ZlZ (by omega),ZlZ (by omega)]
theorem Zda {n:Int}(h:n <= -86400\/86400<=n):ZaL n=[]:=by unfold ZaL;rw[if_pos h]
end Go.Wk
namespace Go.Proofs.YtpipekfmecikmaaGreatDoor
open Go Go.RowKit Go.Wk
attribute [local irreducible] W RL Does Zat Zaj retQ Calls Pu Stp RD Qy Ay Zak
theorem Zlm (n:Int)(h:0<=n/\n<=9)(w:World):Does Tryz.prog 260 [.int .i64 n] w (fun v O=>v = .string ⟨[UInt8.ofNat (48+n.toNat)].toArray⟩/\O=[]):=by
 have hx:(⟨#[48,49,50,51,52,53,54,55,56,57]⟩:ByteArray).extract n.toNat (n+1).toNat=⟨[UInt8.ofNat (48+n.toNat)].toArray⟩:=by
  have hn:n=0\/n=1\/n=2\/n=3\/n=4\/n=5\/n=6\/n=7\/n=8\/n=9:=by omega
  rcases hn with rfl|rfl|rfl|rfl|rfl|rfl|rfl|rfl|rfl|rfl <;> decide +kernel
 have b1:decide (n<10)=true:=decide_eq_true (by omega)
 refine Zaa Tryz.func260 rfl rfl rfl rfl ?_
 repeat (first|(apply RL_pu;rfl;(first|(apply Zc0;rfl;rfl;(constructor <;> omega))|(apply Zaz;rfl;rfl;exact b1)|(apply ZeQ;rfl;rfl;rfl;omega;omega;(show n+1<=10;omega);exact hx)))|refine walk1 ?_)
 exact rtA
theorem Zde (n:Int)(h:0<=n/\n<=99)(w:World):Does Tryz.prog 204 [.int .i64 n] w (fun v O=>v = .string ⟨(dig2 n).toArray⟩/\O=[]):=by
 have h1:=fun w'=>Zlm (n / 10) ⟨by omega,by omega⟩ w'
 have h2:=fun w'=>Zlm (n % 10) ⟨by omega,by omega⟩ w'
 refine Zaa Tryz.func204 rfl rfl rfl rfl ?_
 repeat (first|(apply RL_pu;rfl;(first|(apply Pu_quo64;rfl;rfl;omega;omega;decide)|(apply Pu_remE;rfl;rfl;omega;decide)|(apply ZkM;rfl;rfl;(simp only[List.length_cons,List.length_nil];omega))))|(refine js ?_;(first|(refine Zab (fun w' _=>h1 w') ?_)|(refine Zab (fun w' _=>h2 w') ?_)))|refine walk1 ?_)
 exact rtA
theorem Zxw {G:Prop}(h:G:=by(apply Zaz;rfl;rfl;exact b1)):G:=h
theorem ZAf {G:Prop}(h:G:=by(first|(apply Pu_quo64;rfl;rfl;omega;omega;decide)|(apply Pu_remE;rfl;rfl;omega;decide)|(apply ZkM;rfl;rfl;(simp only[List.length_cons,List.length_append,List.length_nil,Zkx];omega))|(apply Zaz;rfl;rfl;first|exact b1|exact b3)|(apply Zaw;rfl;rfl;exact b2)|(apply Zha;rfl;(constructor <;> omega))|(apply Zal;rfl;rfl;first|exact c1|exact c2))):G:=h
theorem ZiX {G G':Prop}(k:G')(h:Hold G'->G:=by intro k9;(first|refine und ?_|(apply RL_pu;rfl;exact ZAf)|(refine js ?_;(first|(refine Zab (fun w' _=>h1 w') ?_)|(refine Zab (fun w' _=>h2 w') ?_)|(refine Zab (fun w' _=>h3 w') ?_)))|refine walk1 ?_);exact k9.out):G:=h ⟨k⟩
theorem ZcB (off:Int)(w:World):Does Tryz.prog 138 [.int .i64 off] w (fun v O=>v = .string ⟨(ZaL off).toArray⟩/\O=[]):=by
 refine Zaa Tryz.func138 rfl rfl rfl rfl ?_
 by_cases hlo:off < -86399
 ·have b1:decide (off < -86399)=true:=decide_eq_true hlo
  rw[Zda (.inl (by omega))]
  repeat (first|refine und ?_|(apply RL_pu;rfl;exact Zxw)|refine walk1 ?_)
  exact rtA
 have b1:decide (off < -86399)=false:=decide_eq_false hlo
 by_cases hhi:86399<off
 ·have b2:decide (86399<off)=true:=decide_eq_true hhi
  rw[Zda (.inr (by omega))]
  repeat (first|refine und ?_|(apply RL_pu;rfl;(first|exact Zxw|(apply Zaw;rfl;rfl;exact b2)))|refine walk1 ?_)
  exact rtA
 have b2:decide (86399<off)=false:=decide_eq_false hhi
 have hT:ZaL off=(if off<0 then (45:UInt8) else 43)::(dig2 ((if off<0 then -off else off) / 3600)++(if (if off<0 then -off else off) % 3600=0 then [] else dig2 ((if off<0 then -off else off) / 60 % 60))++(if (if off<0 then -off else off) % 60=0 then [] else dig2 ((if off<0 then -off else off) % 60))):=by
  unfold ZaL
  rw[if_neg (by omega)]
 rw[hT]
 by_cases hs:off<0
 ·have b3:decide (off<0)=true:=decide_eq_true hs
  simp only[if_pos hs]
  obtain⟨x,hx⟩:∃ x,-off=x:=⟨_,rfl⟩
  rw[hx]
  have h1:=fun w'=>Zde (x / 3600) ⟨by omega,by omega⟩ w'
  have h2:=fun w'=>Zde (x / 60 % 60) ⟨by omega,by omega⟩ w'
  have h3:=fun w'=>Zde (x % 60) ⟨by omega,by omega⟩ w'
  by_cases e1:x % 3600=0
  ·have c1:(!decide (x % 3600=0))=false:=by rw[decide_eq_true e1];rfl
   have e2:x % 60=0:=by omega
   have c2:(!decide (x % 60=0))=false:=by rw[decide_eq_true e2];rfl
   rw[if_pos e1,if_pos e2]
   subst hx
   repeat refine ZiX ?_
   exact ret_1 _ [] (.tmp rfl) .nil ⟨by simp,rfl⟩
  ·have c1:(!decide (x % 3600=0))=true:=by rw[decide_eq_false e1];rfl
   rw[if_neg e1]
   by_cases e2:x % 60=0
   ·have c2:(!decide (x % 60=0))=false:=by rw[decide_eq_true e2];rfl
    rw[if_pos e2]
    subst hx
    repeat refine ZiX ?_
    exact ret_1 _ [] (.tmp rfl) .nil ⟨by simp,rfl⟩
   ·have c2:(!decide (x % 60=0))=true:=by rw[decide_eq_false e2];rfl
    rw[if_neg e2]
    subst hx
    repeat refine ZiX ?_
    exact ret_1 _ [] (.tmp rfl) .nil ⟨by simp,rfl⟩
 ·have b3:decide (off<0)=false:=decide_eq_false hs
  simp only[if_neg hs]
  have h1:=fun w'=>Zde (off / 3600) ⟨by omega,by omega⟩ w'
  have h2:=fun w'=>Zde (off / 60 % 60) ⟨by omega,by omega⟩ w'
  have h3:=fun w'=>Zde (off % 60) ⟨by omega,by omega⟩ w'
  by_cases e1:off % 3600=0
  ·have c1:(!decide (off % 3600=0))=false:=by rw[decide_eq_true e1];rfl
   have e2:off % 60=0:=by omega
   have c2:(!decide (off % 60=0))=false:=by rw[decide_eq_true e2];rfl
   rw[if_pos e1,if_pos e2]
   repeat refine ZiX ?_
   exact ret_1 _ [] (.tmp rfl) .nil ⟨by simp,rfl⟩
  ·have c1:(!decide (off % 3600=0))=true:=by rw[decide_eq_false e1];rfl
   rw[if_neg e1]
   by_cases e2:off % 60=0
   ·have c2:(!decide (off % 60=0))=false:=by rw[decide_eq_true e2];rfl
    rw[if_pos e2]
    repeat refine ZiX ?_
    exact ret_1 _ [] (.tmp rfl) .nil ⟨by simp,rfl⟩
   ·have c2:(!decide (off % 60=0))=true:=by rw[decide_eq_false e2];rfl
    rw[if_neg e2]
    repeat refine ZiX ?_
    exact ret_1 _ [] (.tmp rfl) .nil ⟨by simp,rfl⟩
def optN:Option Int->Int
 | some n=>n
 | none => -1
theorem ZmI {G:Prop}(h:G:=by(first|(apply Zc0;rfl;rfl;(constructor <;> omega))|(apply Za3;rfl;rfl;omega;omega;first|exact hg1|exact hg2)|(apply Zaz;rfl;rfl;first|exact b1|exact b3)|(apply Zaw;rfl;rfl;first|exact b0|exact b2|exact b4)|(apply ZyX;rfl;rfl;(constructor <;> omega))|(apply Pu_conv64;rfl;(constructor <;> omega)))):G:=h
theorem Ztg {G:Prop}(h:G:=by first|(apply Qy_y;rfl;exact ZmI)|exact QyA):G:=h
theorem ZwU {G:Prop}(h:G:=by repeat (first|exact QF.nil|(apply QF.mk;rfl;rfl;decide +kernel;exact Ztg))):G:=h
theorem Zk2 {G G':Prop}(k:G')(h:Hold G'->G:=by intro k9;(first|refine und ?_|(apply RL_pu;rfl;exact ZmI)|(apply RD_Q;rfl;rfl;decide +kernel;rfl;rfl;exact Ztg)|refine walk1 ?_|(refine jn ?_;(try intro F);(apply Zac;first|exact ZmI|exact PuA);first|refine⟨_,EndsA,ZwU,?_⟩|refine fin ?_));exact k9.out):G:=h ⟨k⟩
theorem Zqe (s:ByteArray)(i:Nat)(hs:(s.size:Int)<=9223372036854775000)(hi:(i:Int)<=9223372036854775000)(w:World):Does Tryz.prog 284 [.string s,.int .i64 i] w (fun v O=>v = .int .i64 (optN (twoR s.data.toList i))/\O=[]):=by
 have hL:s.data.toList.length=s.size:=rfl
 unfold twoR
 refine Zaa Tryz.func284 rfl rfl rfl rfl ?_
 by_cases h0:s.size<i+2
 ·have b0:decide ((s.size:Int)<(i:Int)+2)=true:=decide_eq_true (by omega)
  have hno:s.data.toList[i+1]?=none:=List.getElem?_eq_none (by omega)
  rw[hno]
  rw[show(match s.data.toList[i]?,(none:Option UInt8) with
   | some c,some d=>if digC c.toNat&&digC d.toNat then some (10*((c.toNat:Int) - 48)+((d.toNat:Int) - 48)) else none
   | _,_=>none)=none by cases s.data.toList[i]? <;> rfl]
  repeat refine Zk2 ?_
  exact rtA
 have b0:decide ((s.size:Int)<(i:Int)+2)=false:=decide_eq_false (by omega)
 have hg1:s.data.toList.getD ((i:Int)).toNat 0=s.data.toList[i]:=Zc5 (by omega)
 have hg2:s.data.toList.getD ((i:Int)+1).toNat 0=s.data.toList[i+1]:=by rw[show((i:Int)+1).toNat=i+1 by omega];exact Zc5 (by omega)
 rw[List.getElem?_eq_getElem (show i<s.data.toList.length by omega),List.getElem?_eq_getElem (show i+1<s.data.toList.length by omega)]
 dsimp only
 generalize s.data.toList[i]=c at *
 generalize s.data.toList[i+1]=d at *
 have hc:=c.toNat_lt
 have hd:=d.toNat_lt
 unfold digC
 by_cases h1:c.toNat<48
 ·have b1:decide ((c.toNat:Int)<48)=true:=decide_eq_true (by omega)
  rw[decide_eq_false (show ¬ (48:Int)<=(c.toNat:Int) by omega)]
  repeat refine Zk2 ?_
  exact rtA
 have b1:decide ((c.toNat:Int)<48)=false:=decide_eq_false (by omega)
 by_cases h2:57<c.toNat
 ·have b2:decide (57<(c.toNat:Int))=true:=decide_eq_true (by omega)
  rw[decide_eq_false (show ¬ (c.toNat:Int)<=57 by omega),Bool.and_false]
  repeat refine Zk2 ?_
  exact rtA
 have b2:decide (57<(c.toNat:Int))=false:=decide_eq_false (by omega)
 by_cases h3:d.toNat<48
 ·have b3:decide ((d.toNat:Int)<48)=true:=decide_eq_true (by omega)
  rw[decide_eq_false (show ¬ (48:Int)<=(d.toNat:Int) by omega),Bool.false_and,Bool.and_false]
  repeat refine Zk2 ?_
  exact rtA
 have b3:decide ((d.toNat:Int)<48)=false:=decide_eq_false (by omega)
 by_cases h4:57<d.toNat
 ·have b4:decide (57<(d.toNat:Int))=true:=decide_eq_true (by omega)
  rw[decide_eq_false (show ¬ (d.toNat:Int)<=57 by omega),Bool.and_false,Bool.and_false]
  repeat refine Zk2 ?_
  exact rtA
 have b4:decide (57<(d.toNat:Int))=false:=decide_eq_false (by omega)
 rw[decide_eq_true (show(48:Int)<=(c.toNat:Int) by omega),decide_eq_true (show(c.toNat:Int)<=57 by omega),decide_eq_true (show(48:Int)<=(d.toNat:Int) by omega),decide_eq_true (show(d.toNat:Int)<=57 by omega)]
 rw[show optN (if (true&&true&&(true&&true))=true then some (10*((c.toNat:Int) - 48)+((d.toNat:Int) - 48)) else none)=10*((c.toNat:Int) - 48)+((d.toNat:Int) - 48) from rfl]
 repeat (first|(apply RL_pu;rfl;exact ZmI)|(apply RD_Q;rfl;rfl;decide +kernel;rfl;rfl;exact Ztg)|refine walk1 ?_|(refine jn ?_;(try intro F);(apply Zac;first|exact ZmI|exact PuA);first|refine⟨_,EndsA,ZwU,?_⟩|refine fin ?_))
 exact rtA
end Go.Proofs.YtpipekfmecikmaaGreatDoor
