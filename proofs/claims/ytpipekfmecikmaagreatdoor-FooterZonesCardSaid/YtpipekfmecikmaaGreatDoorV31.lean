/- Parts of the proof. -/
import Derived.Test.YtpipekfmecikmaaGreatDoorV30
import Derived.Test.YtpipekfmecikmaaGreatDoorV26
import Derived.Test.YtpipekfmecikmaaGreatDoorV33
import Derived.Test.YtpipekfmecikmaaGreatDoorV23
import Derived.Test.YtpipekfmecikmaaGreatDoorV19
import Derived.Test.YtpipekfmecikmaaGreatDoorV25
set_option maxHeartbeats 4000000
set_option linter.unusedVariables false
set_option linter.unusedSimpArgs false
namespace Go.Proofs.YtpipekfmecikmaaGreatDoor
open Go Go.RowKit Go.Wk
attribute [local irreducible] W RL Does Zat Zaj retQ Calls Pu Stp RD Qy Ay Zak
theorem ZgP {G:Prop}(h:G:=by(first|(apply Zan;rfl;rfl;first|exact k0|exact k3|exact k5)|(apply Zal;rfl;rfl;first|exact n2|exact e0|exact x0)|(apply Zaz;rfl;rfl;exact k4)|(apply Zcc;rfl;rfl;exact f0))):G:=h
theorem ZoD {G G':Prop}(k:G')(h:Hold G'->G:=by intro k9;(first|refine und ?_|(apply RL_pu;rfl;exact ZgP)|(apply RD_Q;rfl;rfl;decide +kernel;rfl;rfl;exact QyRfY0)|refine walk1 ?_|(refine jg ?_;(try intro F);(refine Zab hex ?_);first|refine⟨_,EndsA,QFRfY0,?_⟩|refine fin ?_)|(refine jn ?_;(try intro F);(apply Zac;first|exact ZgP|exact PuA);first|refine⟨_,EndsA,QFRfY0,?_⟩|refine fin ?_));exact k9.out):G:=h ⟨k⟩
theorem ZmB {G:Prop}(h:G:=by(first|exact PuI|(apply Zan;rfl;rfl;first|exact k0|exact k3|exact k5)|(apply Zal;rfl;rfl;first|exact n2|exact e0|exact x0)|(apply Zaz;rfl;rfl;exact k4)|(apply Zcc;rfl;rfl;exact f0))):G:=h
theorem Ztd {G:Prop}(h:G:=by first|(apply Qy_y;rfl;exact ZmB)|exact QyA):G:=h
theorem Zpx {G:Prop}(h:G:=by repeat (first|exact QF.nil|(apply QF.mk;rfl;rfl;decide +kernel;exact Ztd))):G:=h
theorem Zxi {G:Prop}(h:G:=by(apply Zal;rfl;rfl;exact n2)):G:=h
theorem ZpL {G:Prop}(h:G:=by(apply Zan;rfl;rfl;first|exact k0|exact k3)):G:=h
set_option maxHeartbeats 4000000 in
theorem Znl (e:DEra)(A:Option Addr)(c:Nat)(l:List DRule)(w:World)(hA:RdSl w A c DRule.enc 11 l)(ho:I64 e.off)(hs:I64 e.save)(hr:∀ r∈l,I64 r.save)(hn:l.length<=1000000)(hfs:e.format.size<=1000000000)(hlt:∀ r∈l,r.letter.size<=1000000000) :
  Does Tryz.prog 254 [.agg (DEra.enc e).toArray,.slice A l.length c] w (fun v O=>v = .int .i64 (Zek e l)/\O=[]):=by
 have hk:=fun w'=>Zf1 e.format hfs w'
 have hbd:=Zko e.format.data.toList
 have hex:=fun w' (hw:Bel w.heap.size w w')=>ZrF e A c l w' (hA.up hw) ho hs hr hn
 have hab0:=fun w'=>ZeC e.format ByteArray.empty 0 0 w' hfs (Nat.zero_le _) ⟨by decide,by decide⟩ ⟨by decide,by decide⟩
 rw[show ByteArray.empty.data.toList=[] from rfl]at hab0
 have habs:=fun(r:DRule) (hr':r∈l) w'=>ZeC e.format r.letter 0 0 w' hfs (hlt r hr') ⟨by decide,by decide⟩ ⟨by decide,by decide⟩
 unfold Zek
 dsimp only
 have hfb:=ZbT (ZdH e l).1 e.format
 generalize ZdH e l=X at *
 obtain⟨xs,xe⟩:=X
 have hFE:∀ F:List UInt8,ZbB F [[]]=(ZeW F 0 0 []).2:=fun F=>by
  unfold ZbB ZbB
  split
  ·rename_i h;exact h.symm
  ·rfl
 rw[show(if e.kind=2 then l.map (fun r=>r.letter.data.toList) else [[]])=(if e.kind=2 then l.map (fun r=>r.letter.data.toList) else [[]]) from rfl]
 obtain⟨off,kind,save,set,format,⟨tis,year,month,⟨dk,dw,dd⟩,⟨us,ub⟩⟩⟩:=e
 dsimp only at hk hbd hab0 habs hfb hfs ⊢
 replace hex:∀ w',Bel w.heap.size w w'->Does Tryz.prog 283 [.agg #[.int .i64 off,.int .i64 kind,.int .i64 save,.string set,.string format,.bool tis,.int .i64 year,.int .i64 month,.int .i64 dk,.int .i64 dw,.int .i64 dd,.int .i64 us,.int .i64 ub],.slice A l.length c] w' (fun v O=>v = .tuple #[.string ⟨xs.toArray⟩,.int .i64 xe]/\O=[]):=hex
 generalize hK:Za6 format.data.toList=K at *
 show Does _ _ [.agg #[.int .i64 off,.int .i64 kind,.int .i64 save,.string set,.string format,.bool tis,.int .i64 year,.int .i64 month,.int .i64 dk,.int .i64 dw,.int .i64 dd,.int .i64 us,.int .i64 ub],.slice A l.length c] w _
 refine Zaa Tryz.func254 rfl rfl rfl rfl ?_
 by_cases hK0:K=0
 ·have k0:decide (K=0)=true:=decide_eq_true hK0
  rw[if_pos hK0]
  repeat (first|refine und ?_|(apply RL_pu;rfl;exact ZgP)|(apply RD_Q;rfl;rfl;decide +kernel;rfl;rfl;exact QyRfY0)|refine walk1 ?_|(refine jg ?_;(try intro F);(first|(refine Zab (fun w' _=>hk w') ?_)|(refine bx ?_;intro bk));first|refine⟨_,EndsA,QFRfY0,?_⟩|refine fin ?_)|(refine jn ?_;(try intro F);(first|(refine bx ?_;intro bk)|(apply Zac;first|exact ZgP|exact PuA));first|refine⟨_,EndsA,QFRfY0,?_⟩|refine fin ?_))
  exact rtA
 have k0:decide (K=0)=false:=decide_eq_false hK0
 rw[if_neg hK0]
 by_cases hK3:K=3
 ·rw[if_pos hK3]
  clear k0
  subst hK3
  by_cases hk2:kind=2
  ·subst hk2
   rw[if_pos rfl]
   repeat (first|refine und ?_|refine walk ?_|(refine jg ?_;(try intro F);(first|(refine Zab (fun w' _=>hk w') ?_)|(refine bx ?_;intro bk));refine fin ?_)|(refine jn ?_;(try intro F);(first|(refine bx ?_;intro bk)|(apply Zac;exact PuA));refine fin ?_))
   obtain⟨R,hR⟩:∃ R,ZbB format.data.toList (l.map fun r=>r.letter.data.toList)=R:=⟨_,rfl⟩
   rw[hR]
   refine Zai [(1,.slice A l.length c),(2,.pointer (some ⟨bk,0,none⟩)),(5,.int .i64 3)] [.blk bk [.int .i64 off,.int .i64 2,.int .i64 save,.string set,.string format,.bool tis,.int .i64 year,.int .i64 month,.int .i64 dk,.int .i64 dw,.int .i64 dd,.int .i64 us,.int .i64 ub] 75] (fun k:Nat=>[(8,.int .i64 k)]) (fun _=>[])
    (fun k=>k<=l.length/\ZbB format.data.toList ((l.drop k).map fun r=>r.letter.data.toList)=R) (fun k=>l.length - k) 0 SFA SOA ⟨Nat.zero_le _,hR⟩ ?_
   clear hR
   rintro k ⟨hk1,hi⟩
   by_cases hkl:k<l.length
   ·have k4:decide ((k:Int)<(l.length:Int))=true:=decide_eq_true (by omega)
    obtain⟨hna,hca⟩:=hA.rd k _ (List.getElem?_eq_getElem hkl)
    have hab:=habs l[k] (List.getElem_mem hkl)
    rw[Zag hkl,List.map_cons,ZbB]at hi
    generalize l[k]=r at *
    simp only[DRule.enc]at hca
    generalize ZeW format.data.toList 0 0 r.letter.data.toList=ax at *
    obtain⟨az,ae⟩:=ax
    dsimp only at hi
    by_cases ha0:ae=0
    ·have e0:(!decide (ae=0))=false:=by rw[decide_eq_true ha0];rfl
     rw[if_pos ha0]at hi
     repeat (first|refine und ?_|(apply RL_pu;rfl;exact ZmB)|(apply RD_Q;rfl;rfl;decide +kernel;rfl;rfl;exact Ztd)|refine walk1 ?_|(refine jg ?_;(try intro F);(first|(refine Zab (fun w' _=>hab w') ?_)|(refine bx ?_;intro bk));first|refine⟨_,EndsA,Zpx,?_⟩|refine fin ?_)|(refine jn ?_;(try intro F);(first|(refine bx ?_;intro bk)|(apply Zac;first|exact ZmB|exact PuA));first|refine⟨_,EndsA,Zpx,?_⟩|refine fin ?_))
     exact⟨k+1,OA,⟨OA,hi⟩,SFA,SOA⟩
    ·have e0:(!decide (ae=0))=true:=by rw[decide_eq_false ha0];rfl
     rw[if_neg ha0]at hi
     subst hi
     repeat (first|refine und ?_|(apply RL_pu;rfl;exact ZmB)|(apply RD_Q;rfl;rfl;decide +kernel;rfl;rfl;exact Ztd)|refine walk1 ?_|(refine jg ?_;(try intro F);(first|(refine Zab (fun w' _=>hab w') ?_)|(refine bx ?_;intro bk));first|refine⟨_,EndsA,Zpx,?_⟩|refine fin ?_)|(refine jn ?_;(try intro F);(first|(refine bx ?_;intro bk)|(apply Zac;first|exact ZmB|exact PuA));first|refine⟨_,EndsA,Zpx,?_⟩|refine fin ?_))
     exact rtA
   ·have k4:decide ((k:Int)<(l.length:Int))=false:=decide_eq_false (by omega)
    rw[List.drop_eq_nil_of_le (by omega),List.map_nil,ZbB]at hi
    subst hi
    repeat (first|refine und ?_|(apply RL_pu;rfl;exact ZgP)|(apply RD_Q;rfl;rfl;decide +kernel;rfl;rfl;exact QyRfY0)|refine walk1 ?_|(refine jn ?_;(try intro F);(first|(refine bx ?_;intro bk)|(apply Zac;first|exact ZgP|exact PuA));first|refine⟨_,EndsA,QFRfY0,?_⟩|refine fin ?_))
    exact rtA
  ·have n2:(!decide (kind=2))=true:=by rw[decide_eq_false hk2];rfl
   rw[if_neg hk2,hFE]
   have hab:=hab0
   generalize ZeW format.data.toList 0 0 []=ax at *
   obtain⟨az,ae⟩:=ax
   repeat (first|refine und ?_|(apply RL_pu;rfl;exact Zxi)|(apply RD_Q;rfl;rfl;decide +kernel;rfl;rfl;exact QyRfY2)|refine walk1 ?_|(refine jg ?_;(try intro F);(first|(refine Zab (fun w' _=>hk w') ?_)|(refine Zab (fun w' _=>hab w') ?_)|(refine bx ?_;intro bk));first|refine⟨_,EndsA,QFRfY2,?_⟩|refine fin ?_)|(refine jn ?_;(try intro F);(first|(refine bx ?_;intro bk)|(apply Zac;first|exact Zxi|exact PuA));first|refine⟨_,EndsA,QFRfY2,?_⟩|refine fin ?_))
   exact rtA
 have k3:decide (K=3)=false:=decide_eq_false hK3
 rw[if_neg hK3]
 by_cases hK4:K=4\/K=5
 ·rw[if_pos hK4]
  have k4:decide (K<4)=false:=decide_eq_false (by omega)
  repeat (first|refine und ?_|(apply RL_pu;rfl;exact ZpL)|(apply RD_Q;rfl;rfl;decide +kernel;rfl;rfl;exact QyRfY3)|refine walk1 ?_|(refine jg ?_;(try intro F);(first|(refine Zab (fun w' _=>hk w') ?_)|(refine bx ?_;intro bk));first|refine⟨_,EndsA,QFRfY3,?_⟩|refine fin ?_)|(refine jn ?_;(try intro F);(first|(refine bx ?_;intro bk)|(apply Zac;first|exact ZpL|exact PuA));first|refine⟨_,EndsA,QFRfY3,?_⟩|refine fin ?_))
  refine Zai [(1,.slice A l.length c),(2,.pointer (some ⟨bk,0,none⟩)),(5,.int .i64 K)] [.blk bk [.int .i64 off,.int .i64 kind,.int .i64 save,.string set,.string format,.bool tis,.int .i64 year,.int .i64 month,.int .i64 dk,.int .i64 dw,.int .i64 dd,.int .i64 us,.int .i64 ub] 75] (fun k:Nat=>[(8,.int .i64 k)]) (fun _=>[])
   (fun k=>k=0) (fun k=>k) 0 SFA SOA rfl ?_
  rintro k rfl
  by_cases hx:xe=0
  ·have x0:(!decide (xe=0))=false:=by rw[decide_eq_true hx];rfl
   by_cases hK5:K=5
   ·have k5:decide (K=5)=true:=decide_eq_true hK5
    by_cases hf:xs=format.data.toList
    ·have f0:(!decide ((⟨xs.toArray⟩:ByteArray)=format))=false:=by rw[decide_eq_true (hfb.2 hf)];rfl
     rw[if_neg (by rintro(h|h);exact h hx;exact h.2 hf)]
     repeat (first|refine ZoD ?_|(refine jg ?_;(try intro F);(refine bx ?_;intro bk);first|refine⟨_,EndsA,QFRfY0,?_⟩|refine fin ?_)|(refine jn ?_;(try intro F);(refine bx ?_;intro bk);first|refine⟨_,EndsA,QFRfY0,?_⟩|refine fin ?_))
     exact rtA
    ·have f0:(!decide ((⟨xs.toArray⟩:ByteArray)=format))=true:=by rw[decide_eq_false (fun h=>hf (hfb.1 h))];rfl
     rw[if_pos (.inr ⟨hK5,hf⟩)]
     repeat (first|refine ZoD ?_|(refine jg ?_;(try intro F);(refine bx ?_;intro bk);first|refine⟨_,EndsA,QFRfY0,?_⟩|refine fin ?_)|(refine jn ?_;(try intro F);(refine bx ?_;intro bk);first|refine⟨_,EndsA,QFRfY0,?_⟩|refine fin ?_))
     exact rtA
   ·have k5:decide (K=5)=false:=decide_eq_false hK5
    rw[if_neg (by rintro(h|h);exact h hx;exact hK5 h.1)]
    repeat (first|refine ZoD ?_|(refine jg ?_;(try intro F);(refine bx ?_;intro bk);first|refine⟨_,EndsA,QFRfY0,?_⟩|refine fin ?_)|(refine jn ?_;(try intro F);(refine bx ?_;intro bk);first|refine⟨_,EndsA,QFRfY0,?_⟩|refine fin ?_))
    exact rtA
  ·have x0:(!decide (xe=0))=true:=by rw[decide_eq_false hx];rfl
   rw[if_pos (.inl hx)]
   repeat (first|refine ZoD ?_|(refine jg ?_;(try intro F);(refine bx ?_;intro bk);first|refine⟨_,EndsA,QFRfY0,?_⟩|refine fin ?_)|(refine jn ?_;(try intro F);(refine bx ?_;intro bk);first|refine⟨_,EndsA,QFRfY0,?_⟩|refine fin ?_))
   exact rtA
 ·rw[if_neg hK4]
  have k4:decide (K<4)=true:=decide_eq_true (by omega)
  repeat (first|refine und ?_|(apply RL_pu;rfl;exact ZpL)|(apply RD_Q;rfl;rfl;decide +kernel;rfl;rfl;exact QyRfY3)|refine walk1 ?_|(refine jg ?_;(try intro F);(first|(refine Zab (fun w' _=>hk w') ?_)|(refine bx ?_;intro bk));first|refine⟨_,EndsA,QFRfY3,?_⟩|refine fin ?_)|(refine jn ?_;(try intro F);(first|(refine bx ?_;intro bk)|(apply Zac;first|exact ZpL|exact PuA));first|refine⟨_,EndsA,QFRfY3,?_⟩|refine fin ?_))
  refine Zai [(1,.slice A l.length c),(2,.pointer (some ⟨bk,0,none⟩)),(5,.int .i64 K)] [.blk bk [.int .i64 off,.int .i64 kind,.int .i64 save,.string set,.string format,.bool tis,.int .i64 year,.int .i64 month,.int .i64 dk,.int .i64 dw,.int .i64 dd,.int .i64 us,.int .i64 ub] 75] (fun k:Nat=>[(8,.int .i64 k)]) (fun _=>[])
   (fun k=>k=0) (fun k=>k) 0 SFA SOA rfl ?_
  rintro k rfl
  repeat (first|refine und ?_|(apply RL_pu;rfl;exact ZgP)|(apply RD_Q;rfl;rfl;decide +kernel;rfl;rfl;exact QyRfY0)|refine walk1 ?_|(refine jn ?_;(try intro F);(first|(refine bx ?_;intro bk)|(apply Zac;first|exact ZgP|exact PuA));first|refine⟨_,EndsA,QFRfY0,?_⟩|refine fin ?_))
  exact rtA
theorem ZhA (Ar Az Al As:Option Addr)(cr cz cl cs:Nat)(a:DSource)(e:DEra)(w:World)(hA:Zar w Ar Az Al As cr cz cl cs a)(hn:a.rules.length<=1000000) :
  Does Tryz.prog 255 [srcV Ar Az Al As cr cz cl cs a,.agg e.enc.toArray] w (fun v O=>v = .int .i64 (ZaB e.til (Zah (ZaE a.rules e))).1/\O=[]):=by
 have hst:=fun w' (hw:Bel w.heap.size w w')=>Zdz Ar Az Al As cr cz cl cs a e w' (hA.up hw) hn
 have hle:=fun A3 c3 w' h=>ZcF A3 c3 (ZaE a.rules e) w' h
 have hno:=fun w'=>Znk e.til (Zah (ZaE a.rules e)) w'
 generalize ZaE a.rules e=R at *
 generalize Zah R=L at *
 generalize ZaB e.til L=nm at *
 obtain⟨n,ne⟩:=nm
 obtain⟨off,kind,save,set,format,⟨is,year,month,⟨dk,dw,dd⟩,⟨us,ub⟩⟩⟩:=e
 dsimp only at hst hno ⊢
 simp only[DEra.enc]at hst ⊢
 simp only[DUntil.enc]at hno
 refine Zaa Tryz.func255 rfl rfl rfl rfl ?_
 repeat (first|refine walk ?_|(refine jg ?_;(try intro F);(first|(apply Zae (h:=fun w' hw _=>hst w' hw);rfl;rintro v O' ⟨A3,c3,rfl,rfl⟩)|(refine ZaM (fun w' hw hO=>hle A3 c3 w' (ZaX DRule.len (hO.of (A := .row (.slice A3 R.length c3) 68 11 R.length (R.flatMap DRule.enc)) (by repeat' constructor)))) ?_)|(refine Zab (fun w' _=>hno w') ?_)|(refine bx ?_;intro bk));refine fin ?_)|(refine jn ?_;(try intro F);(first|(refine bx ?_;intro bk)|(apply Zac;exact PuA));refine fin ?_))
 exact rtA
def FarS:Prop:=∀ (l:List DRule) (n:Int),(-1000000000000<=n/\n<=1000000000000)->farD l n=farR l n
theorem Zjh (u:DUntil)(least:Int) : -1000000000000<=(ZaB u least).1/\(ZaB u least).1<=1000000000000:=by
 unfold ZaB
 split
 ·exact⟨by dsimp only;omega,by dsimp only;omega⟩
 ·rename_i h
  have h0:ZaI u least=0:=Decidable.not_not.1 h
  have h1:=h0
  unfold ZaI at h0
  dsimp only at h0 ⊢
  have hb : -500000<=(onD u.year u.month u.day).1/\(onD u.year u.month u.day).1<=500000\/¬ (1850<=u.year/\u.year<=2149):=by
   by_cases hy:1850<=u.year/\u.year<=2149
   ·left
    unfold onD
    split
    ·exact⟨by decide,by decide⟩
    ·rename_i h2
     split
     ·exact⟨by decide,by decide⟩
     ·rename_i h3
      split
      ·exact⟨by decide,by decide⟩
      ·simp only[Bool.not_eq_false]at h2 h3
       have hl:=Zc4 u.year u.month
       have hd:=Zcm h3
       have hf : -100000<=ZaP u.year u.month 1/\ZaP u.year u.month 1<=200000:=by
        unfold ZaP ZbI
        split
        ·have:=ZbJ (u.month+12 - 3).toNat;omega
        ·have:=ZbJ (u.month - 3).toNat;omega
       unfold ZeV Zbp Za1
       dsimp only
       repeat' split
       all_goals omega
   ·right;exact hy
  repeat' split at h0
  all_goals first|(exfalso;omega)|(split <;> omega)
end Go.Proofs.YtpipekfmecikmaaGreatDoor
namespace Go.Proofs.YtpipekfmecikmaaGreatDoor
open Go Go.RowKit Go.Wk
def Zrt (s:DSource)(x:ByteArray):Option ByteArray :=
 match ZaO x s.zones 0 with
 | some _=>none
 | none=>match ZaR x s.links 0 with
  | none=>none
  | some i=>some ((s.links[i]?).map (·.target) |>.getD ByteArray.empty)
def ZdW (s:DSource):Nat->ByteArray->Option ByteArray
 | 0,x=>some x
 | n+1,x=>(Zrt s x).bind (ZdW s n)
theorem ZfB (s:DSource)(b:Nat):∀ (a:Nat) (x:ByteArray),ZdW s (a+b) x=(ZdW s a x).bind (ZdW s b)
 | 0,x=>by rw[Nat.zero_add];rfl
 | a+1,x=>by
  rw[show a+1+b=(a+b)+1 by omega,ZdW,ZdW,Option.bind_assoc]
  congr 1
  funext y
  exact ZfB s b a y
theorem ZqH {s:DSource}{x:ByteArray}{j:Nat}(h:ZdW s (j+1) x=some x)(n:Nat):ZdW s n x≠none:=by
 have hk:∀ k,ZdW s ((j+1)*k) x=some x:=fun k=>by
  induction k with
  | zero=>rfl
  | succ k ih=>rw[Nat.mul_succ,ZfB,ih];exact h
 intro hn
 have h1:=hk n
 have h2:(j+1)*n=n+j*n:=by rw[Nat.add_mul];omega
 rw[h2,ZfB,hn]at h1
 cases h1
theorem Zjs (s:DSource):∀ (f:Nat) (x:ByteArray),(Zh9 s f x).2=11↔ZdW s f x≠none
 | 0,x=>⟨fun _ h=>(by cases h),fun _=>rfl⟩
 | f+1,x=>by
  rw[Zh9,ZdW,Zrt]
  cases ZaO x s.zones 0 with
  | some i=>exact⟨fun h=>(by cases h),fun h=>absurd rfl h⟩
  | none =>
   cases ZaR x s.links 0 with
   | none=>exact⟨fun h=>(by cases h),fun h=>absurd rfl h⟩
   | some i=>exact Zjs s f _
theorem Zlv {α:Type}[DecidableEq α]:∀ (a b:List α),a.Nodup->(∀ x∈a,x∈b)->a.length<=b.length
 | [],_,_,_=>Nat.zero_le _
 | x::a,b,hn,hs=>by
  have hx:=hs x List.mem_cons_self
  rw[List.nodup_cons]at hn
  have ih:=Zlv a (b.erase x) hn.2 fun y hy=>(List.mem_erase_of_ne (fun e=>hn.1 (by rw[<- e];exact hy))).2 (hs y (List.mem_cons_of_mem _ hy))
  rw[List.length_erase_of_mem hx]at ih
  have:0<b.length:=List.length_pos_of_mem hx
  simp only[List.length_cons]
  omega
theorem Zkk (x:ByteArray):∀ l:List ByteArray,memB x l=true↔x∈l
 | []=>⟨fun h=>(by cases h),fun h=>(by cases h)⟩
 | y::l=>by
  rw[ZhO,Bool.or_eq_true,decide_eq_true_eq,Zkk x l,List.mem_cons]
  exact⟨fun h=>h.elim (fun h => .inl h.symm) .inr,fun h=>h.elim (fun h => .inl h.symm) .inr⟩
theorem Zh5 {x:ByteArray}:∀ (l:List DLink) (k i:Nat),ZaR x l k=some i->∃ z∈l,z.name=x
 | [],_,_,h=>by cases h
 | y::l,k,i,h=>by
  rw[ZaR]at h
  by_cases hy:y.name=x
  ·exact⟨y,List.mem_cons_self,hy⟩
  ·rw[if_neg hy]at h
   obtain⟨z,hz,e⟩:=Zh5 l (k+1) i h
   exact⟨z,List.mem_cons_of_mem _ hz,e⟩
theorem ZgF (s:DSource):∀ (f:Nat) (seen:List ByteArray) (x:ByteArray),f+seen.length=s.links.length+1->seen.Nodup->(∀ y∈seen,y∈s.links.map (·.name))->(∀ y∈seen,∃ j,ZdW s (j+1) y=some x) ->
  (ZbR s f seen x).2=11->∀ n,ZdW s n x≠none
 | 0,seen,x,hf,hn,hm,_,_=>by
  have:=Zlv _ _ hn hm
  rw[List.length_map]at this
  omega
 | f+1,seen,x,hf,hn,hm,hj,h=>by
  rw[ZbR]at h
  cases hz:ZaO x s.zones 0 with
  | some i=>rw[hz]at h;cases h
  | none =>
   rw[hz]at h
   dsimp only at h
   cases hl:ZaR x s.links 0 with
   | none=>rw[hl]at h;cases h
   | some i =>
    rw[hl]at h
    dsimp only at h
    by_cases hb:memB x seen=true
    ·obtain⟨j,hj⟩:=hj x ((Zkk x seen).1 hb)
     exact ZqH hj
    ·rw[if_neg hb]at h
     have hx:x ∉ seen:=fun e=>hb ((Zkk x seen).2 e)
     have hst:Zrt s x=some ((s.links[i]?).map (·.target) |>.getD ByteArray.empty):=by unfold Zrt;rw[hz,hl]
     have ih:=ZgF s f (x::seen) _ (by simp only[List.length_cons];omega) (List.nodup_cons.2 ⟨hx,hn⟩) (fun y hy=>by
      rcases List.mem_cons.1 hy with rfl|hy
      ·obtain⟨z,hz,e⟩:=Zh5 _ _ _ hl
       exact List.mem_map.2 ⟨z,hz,e⟩
      ·exact hm y hy) (fun y hy=>by
      rcases List.mem_cons.1 hy with rfl|hy
      ·exact⟨0,by rw[ZdW,hst];rfl⟩
      ·obtain⟨j,hj⟩:=hj y hy
       exact⟨j+1,by rw[show j+1+1=(j+1)+1 from rfl,ZfB,hj,Option.bind_some,ZdW,hst];rfl⟩) h
     intro n
     cases n with
     | zero=>exact fun e=>by cases e
     | succ n=>rw[ZdW,hst];exact ih n
theorem Zh0 (s:DSource):∀ (f:Nat) (seen:List ByteArray) (x:ByteArray),(ZbR s f seen x).2≠11->ZdW s f x=none
 | 0,_,_,h=>absurd rfl h
 | f+1,seen,x,h=>by
  rw[ZbR]at h
  rw[ZdW,Zrt]
  cases hz:ZaO x s.zones 0 with
  | some i=>rfl
  | none =>
   rw[hz]at h
   dsimp only at h ⊢
   cases hl:ZaR x s.links 0 with
   | none=>rfl
   | some i =>
    rw[hl]at h
    dsimp only at h ⊢
    by_cases hb:memB x seen=true
    ·rw[if_pos hb]at h;exact absurd rfl h
    ·rw[if_neg hb]at h
     exact Zh0 s f _ _ h
theorem ZnL (s:DSource)(x:ByteArray):(ZbR s (s.links.length+1) [] x).2=11↔(Zh9 s (s.links.length+1) x).2=11:=by
 rw[Zjs]
 constructor
 ·intro h
  exact ZgF s _ [] x (by simp) List.nodup_nil (fun _ h=>by cases h) (fun _ h=>by cases h) h _
 ·intro h
  exact Decidable.of_not_not fun hn=>h (Zh0 s _ [] x hn)
attribute [local irreducible] W RL Does Zat Zaj retQ Calls Pu Stp RD Qy Ay Zak
theorem Zhh {G G':Prop}(k:G')(h:Hold G'->G:=by intro k9;(first|refine walk ?_|(refine jn ?_;(try intro F);(first|(refine stA ?_)|(apply Zac;exact PuA));refine fin ?_));exact k9.out):G:=h ⟨k⟩
theorem Zj0 {G:Prop}(h:G:=by(first|exact PuI|(apply Zaz;rfl;rfl;exact b1))):G:=h
theorem Zti {G:Prop}(h:G:=by first|(apply Qy_y;rfl;exact Zj0)|exact QyA):G:=h
theorem ZpB {G:Prop}(h:G:=by repeat (first|exact QF.nil|(apply QF.mk;rfl;rfl;decide +kernel;exact Zti))):G:=h
theorem ZtY {G:Prop}(h:G:=by(first|exact PuI|(apply Zb6;rfl;rfl;exact bz))):G:=h
theorem ZwB {G:Prop}(h:G:=by first|(apply Qy_y;rfl;exact ZtY)|exact QyA):G:=h
theorem ZwV {G:Prop}(h:G:=by repeat (first|exact QF.nil|(apply QF.mk;rfl;rfl;decide +kernel;exact ZwB))):G:=h
theorem ZiG {G:Prop}(h:G:=by(first|exact Zj0|(apply Zb6;rfl;rfl;exact bz))):G:=h
theorem Zpq {G:Prop}(h:G:=by first|(apply Qy_y;rfl;exact ZiG)|exact QyA):G:=h
theorem ZjW {G:Prop}(h:G:=by repeat (first|exact QF.nil|(apply QF.mk;rfl;rfl;decide +kernel;exact Zpq))):G:=h
theorem ZmJ {G:Prop}(h:G:=by(first|exact PuI|(apply Zan;rfl;rfl;exact b1))):G:=h
theorem Zth {G:Prop}(h:G:=by first|(apply Qy_y;rfl;exact ZmJ)|exact QyA):G:=h
theorem ZpA {G:Prop}(h:G:=by repeat (first|exact QF.nil|(apply QF.mk;rfl;rfl;decide +kernel;exact Zth))):G:=h
set_option maxHeartbeats 2000000 in
theorem Znn (Ar Az Al As:Option Addr)(cr cz cl cs:Nat)(a:DSource)(w:World)(hA:Zar w Ar Az Al As cr cz cl cs a)(hS:ZcK a) :
  Does Tryz.prog 128 [srcV Ar Az Al As cr cz cl cs a] w (fun v O=>v=ptV (ZcV a)/\O=[]):=by
 have hn:=hS.nz
 have hn2:=hS.nl
 have hzs:=fun x w' (hw:Bel w.heap.size w w')=>ZfY Ar Az Al As cr cz cl cs a x w' (hA.up hw) hn
 have hls:=fun x w' (hw:Bel w.heap.size w w')=>Zf0 Ar Az Al As cr cz cl cs a x w' (hA.up hw) hn2
 have hks:=fun x w' (hw:Bel w.heap.size w w')=>Zm9 Ar Az Al As cr cz cl cs a x w' (hA.up hw) hn hn2
 have hfs:=fun x w' (hw:Bel w.heap.size w w')=>Zqo Ar Az Al As cr cz cl cs a x w' (hA.up hw) hn hn2
 have hfe:=fun x=>ZnL a x
 unfold ZcV
 obtain⟨R1,h1⟩:∃ R,Za5 a a.zones 0=R:=⟨_,rfl⟩
 obtain⟨R2,h2⟩:∃ R,Zbf a a.links 0=R:=⟨_,rfl⟩
 obtain⟨R3,h3⟩:∃ R,Zbe a a.links 0=R:=⟨_,rfl⟩
 rw[h1,h2,h3]
 refine Zaa Tryz.func128 rfl rfl rfl rfl ?_
 repeat (first|refine Zhh ?_|(refine jn ?_;(try intro F);(refine bx ?_;intro bk);refine fin ?_)|(apply RD_W;rfl;intro bk))
 rename_i bs
 obtain⟨b2,hb2⟩:∃ b2,bk=b2:=⟨_,rfl⟩
 rw[hb2]
 clear hb2 bk
 refine Zai [(1,.pointer (some ⟨bs,0,none⟩)),(2,.pointer (some ⟨b2,0,none⟩))] [.blk b2 [.int .i64 0,.int .i64 0,.int .i64 0] 138,.blk bs [.slice Ar a.rules.length cr,.slice Az a.zones.length cz,.slice Al a.links.length cl,.slice As a.shifts.length cs] 27]
  (fun k:Nat=>[(4,.int .i64 k)]) (fun _=>[]) (fun k=>k<=a.zones.length/\Za5 a (a.zones.drop k) k=R1) (fun k=>a.zones.length - k) 0 SFA SOA ⟨Nat.zero_le _,h1⟩ ?_
 clear h1
 rintro k ⟨hk,hi⟩
 repeat (first|refine Zhh ?_|(refine jn ?_;(try intro F);(refine bx ?_;intro bk);refine fin ?_)|(apply RD_W;rfl;intro bk))
 refine Zaf rfl (fun hc=>?_) (fun hc=>?_)
 ·simp only[decide_eq_true_eq,Int.ofNat_lt]at hc
  obtain⟨hna,cs1,⟨Ae,ce,hEz,rfl⟩,hca⟩:=hA.z k _ (List.getElem?_eq_getElem hc)
  have hsz:=(hS.zs _ (List.getElem_mem hc)).1
  obtain⟨j,hj,hjk⟩:=ZlP a.zones 0 k (List.getElem?_eq_getElem hc)
  rw[Zag hc,Za5]at hi
  generalize a.zones[k]=z at *
  have hnm:=fun w'=>Zi7 z.name (by omega) w'
  have hz:=hzs z.name
  rw[hj]at hi hz
  simp only[ixN]at hz
  cases hb:ZeS z.name with
  | false =>
   rw[hb]at hi hnm
   rw[if_pos rfl]at hi
   subst hi
   simp only[Option.some_or,ptV,plV,Zaq.enc]
   repeat (first|(apply RL_pu;rfl;exact PuI)|(apply RD_Q;rfl;rfl;decide +kernel;rfl;rfl;exact QyI)|refine walk1 ?_|(refine jg ?_;(try intro F);(first|(refine Zab (fun w' _=>hnm w') ?_)|(refine bx ?_;intro bk)|(refine stA ?_));first|refine⟨_,EndsA,QFI,?_⟩|refine fin ?_)|(refine jn ?_;(try intro F);(first|(refine bx ?_;intro bk)|(refine stA ?_)|(apply Zac;first|exact PuI|exact PuA));first|refine⟨_,EndsA,QFI,?_⟩|refine fin ?_)|(apply RD_W;rfl;intro bk))
   exact rtC
  | true =>
   rw[hb]at hi hnm
   rw[if_neg (by decide)]at hi
   by_cases hjk2:j<k
   ·have b1:decide ((j:Int)<(k:Int))=true:=decide_eq_true (by omega)
    rw[if_pos (fun e=>by injection e with e;omega)]at hi
    subst hi
    simp only[Option.some_or,ptV,plV,Zaq.enc]
    repeat (first|(apply RL_pu;rfl;exact Zj0)|(apply RD_Q;rfl;rfl;decide +kernel;rfl;rfl;exact Zti)|refine walk1 ?_|(refine jg ?_;(try intro F);(first|(refine Zab (fun w' _=>hnm w') ?_)|(refine Zab hz ?_)|(refine bx ?_;intro bk)|(refine stA ?_));first|refine⟨_,EndsA,ZpB,?_⟩|refine fin ?_)|(refine jn ?_;(try intro F);(first|(refine bx ?_;intro bk)|(refine stA ?_)|(apply Zac;first|exact Zj0|exact PuA));first|refine⟨_,EndsA,ZpB,?_⟩|refine fin ?_)|(apply RD_W;rfl;intro bk))
    exact rtC
   ·have b1:decide ((j:Int)<(k:Int))=false:=decide_eq_false (by omega)
    rw[if_neg (fun e=>e (by congr 1;omega))]at hi
    repeat (first|(apply RL_pu;rfl;exact Zj0)|(apply RD_Q;rfl;rfl;decide +kernel;rfl;rfl;exact Zti)|refine walk1 ?_|(refine jg ?_;(try intro F);(first|(refine Zab (fun w' _=>hnm w') ?_)|(refine Zab hz ?_)|(refine bx ?_;intro bk)|(refine stA ?_));first|refine⟨_,EndsA,ZpB,?_⟩|refine fin ?_)|(refine jn ?_;(try intro F);(first|(refine bx ?_;intro bk)|(refine stA ?_)|(apply Zac;first|exact Zj0|exact PuA));first|refine⟨_,EndsA,ZpB,?_⟩|refine fin ?_)|(apply RD_W;rfl;intro bk))
    exact⟨k+1,OA,⟨OA,hi⟩,SFA,SOA⟩
 simp only[decide_eq_false_iff_not,Int.ofNat_lt]at hc
 rw[List.drop_eq_nil_of_le (by omega),Za5]at hi
 subst hi
 rw[Option.none_or]
 clear hk hc
 repeat (first|refine Zhh ?_|(refine jn ?_;(try intro F);(refine bx ?_;intro bk);refine fin ?_)|(apply RD_W;rfl;intro bk))
 refine Zai [(1,.pointer (some ⟨bs,0,none⟩)),(2,.pointer (some ⟨b2,0,none⟩))] [.blk b2 [.int .i64 0,.int .i64 0,.int .i64 0] 138,.blk bs [.slice Ar a.rules.length cr,.slice Az a.zones.length cz,.slice Al a.links.length cl,.slice As a.shifts.length cs] 27]
  (fun k:Nat=>[(6,.int .i64 k)]) (fun _=>[]) (fun k=>k<=a.links.length/\Zbf a (a.links.drop k) k=R2) (fun k=>a.links.length - k) 0 SFA SOA ⟨Nat.zero_le _,h2⟩ ?_
 clear h2 k
 rintro k ⟨hk,hi⟩
 repeat (first|refine Zhh ?_|(refine jn ?_;(try intro F);(refine bx ?_;intro bk);refine fin ?_)|(apply RD_W;rfl;intro bk))
 refine Zaf rfl (fun hc=>?_) (fun hc=>?_)
 ·simp only[decide_eq_true_eq,Int.ofNat_lt]at hc
  obtain⟨hna,hca⟩:=hA.l.rd k _ (List.getElem?_eq_getElem hc)
  have hsz:=(hS.ls _ (List.getElem_mem hc)).2
  obtain⟨j,hj,hjk⟩:=ZlQ a.links 0 k (List.getElem?_eq_getElem hc)
  rw[Zag hc,Zbf]at hi
  generalize a.links[k]=z at *
  have hnm:=fun w'=>Zi7 z.name (by omega) w'
  have hz:=hzs z.name
  have hl:=hls z.name
  have hk2:=hks z.target
  have bz:=ZnE (ZaO z.name a.zones 0)
  rw[hj]at hi hl
  simp only[ixN]at hl
  generalize ZaO z.name a.zones 0=o1 at *
  generalize ixN o1=n1 at *
  cases hb:ZeS z.name with
  | false =>
   rw[hb]at hi hnm
   rw[if_pos rfl]at hi
   subst hi
   simp only[Option.some_or,ptV,plV,Zaq.enc]
   repeat (first|(apply RL_pu;rfl;exact PuI)|(apply RD_Q;rfl;rfl;decide +kernel;rfl;rfl;exact QyI)|refine walk1 ?_|(refine jg ?_;(try intro F);(first|(refine Zab (fun w' _=>hnm w') ?_)|(refine bx ?_;intro bk)|(refine stA ?_));first|refine⟨_,EndsA,QFI,?_⟩|refine fin ?_)|(refine jn ?_;(try intro F);(first|(refine bx ?_;intro bk)|(refine stA ?_)|(apply Zac;first|exact PuI|exact PuA));first|refine⟨_,EndsA,QFI,?_⟩|refine fin ?_)|(apply RD_W;rfl;intro bk))
   exact rtC
  | true =>
   rw[hb]at hi hnm
   rw[if_neg (by decide)]at hi
   generalize o1.isSome=z1 at *
   cases z1 with
   | true =>
    rw[if_pos (.inl rfl)]at hi
    subst hi
    simp only[Option.some_or,ptV,plV,Zaq.enc]
    repeat (first|refine und ?_|(apply RL_pu;rfl;exact ZtY)|(apply RD_Q;rfl;rfl;decide +kernel;rfl;rfl;exact ZwB)|refine walk1 ?_|(refine jg ?_;(try intro F);(first|(refine Zab (fun w' _=>hnm w') ?_)|(refine Zab hz ?_)|(refine bx ?_;intro bk)|(refine stA ?_));first|refine⟨_,EndsA,ZwV,?_⟩|refine fin ?_)|(refine jn ?_;(try intro F);(first|(refine bx ?_;intro bk)|(refine stA ?_)|(apply Zac;first|exact ZtY|exact PuA));first|refine⟨_,EndsA,ZwV,?_⟩|refine fin ?_)|(apply RD_W;rfl;intro bk))
    exact rtC
   | false =>
    by_cases hjk2:j<k
    ·have b1:decide ((j:Int)<(k:Int))=true:=decide_eq_true (by omega)
     rw[if_pos (.inr (fun e=>by injection e with e;omega))]at hi
     subst hi
     simp only[Option.some_or,ptV,plV,Zaq.enc]
     repeat (first|refine und ?_|(apply RL_pu;rfl;exact ZiG)|(apply RD_Q;rfl;rfl;decide +kernel;rfl;rfl;exact Zpq)|refine walk1 ?_|(refine jg ?_;(try intro F);(first|(refine Zab (fun w' _=>hnm w') ?_)|(refine Zab hz ?_)|(refine Zab hl ?_)|(refine bx ?_;intro bk)|(refine stA ?_));first|refine⟨_,EndsA,ZjW,?_⟩|refine fin ?_)|(refine jn ?_;(try intro F);(first|(refine bx ?_;intro bk)|(refine stA ?_)|(apply Zac;first|exact ZiG|exact PuA));first|refine⟨_,EndsA,ZjW,?_⟩|refine fin ?_)|(apply RD_W;rfl;intro bk))
     exact rtC
    ·have b1:decide ((j:Int)<(k:Int))=false:=decide_eq_false (by omega)
     rw[if_neg (fun e=>e.elim (fun e=>by cases e) (fun e=>e (by congr 1;omega)))]at hi
     by_cases hkn:(ZaO z.target a.zones 0).isNone/\(ZaR z.target a.links 0).isNone
     ·rw[if_pos hkn]at hi
      have e0:((ZaO z.target a.zones 0).isSome||(ZaR z.target a.links 0).isSome)=false:=by
       rw[Bool.or_eq_false_iff]
       exact⟨by rw[<- Option.not_isNone,hkn.1];rfl,by rw[<- Option.not_isNone,hkn.2];rfl⟩
      rw[e0]at hk2
      subst hi
      simp only[Option.some_or,ptV,plV,Zaq.enc]
      repeat (first|refine und ?_|(apply RL_pu;rfl;exact ZiG)|(apply RD_Q;rfl;rfl;decide +kernel;rfl;rfl;exact Zpq)|refine walk1 ?_|(refine jg ?_;(try intro F);(first|(refine Zab (fun w' _=>hnm w') ?_)|(refine Zab hz ?_)|(refine Zab hl ?_)|(refine Zab hk2 ?_)|(refine bx ?_;intro bk)|(refine stA ?_));first|refine⟨_,EndsA,ZjW,?_⟩|refine fin ?_)|(refine jn ?_;(try intro F);(first|(refine bx ?_;intro bk)|(refine stA ?_)|(apply Zac;first|exact ZiG|exact PuA));first|refine⟨_,EndsA,ZjW,?_⟩|refine fin ?_)|(apply RD_W;rfl;intro bk))
      exact rtC
     ·rw[if_neg hkn]at hi
      have e0:((ZaO z.target a.zones 0).isSome||(ZaR z.target a.links 0).isSome)=true:=by
       cases hh:((ZaO z.target a.zones 0).isSome||(ZaR z.target a.links 0).isSome) with
       | true=>rfl
       | false =>
        rw[Bool.or_eq_false_iff]at hh
        exact absurd ⟨by rw[<- Option.not_isSome,hh.1];rfl,by rw[<- Option.not_isSome,hh.2];rfl⟩ hkn
      rw[e0]at hk2
      repeat (first|refine und ?_|(apply RL_pu;rfl;exact ZiG)|(apply RD_Q;rfl;rfl;decide +kernel;rfl;rfl;exact Zpq)|refine walk1 ?_|(refine jg ?_;(try intro F);(first|(refine Zab (fun w' _=>hnm w') ?_)|(refine Zab hz ?_)|(refine Zab hl ?_)|(refine Zab hk2 ?_)|(refine bx ?_;intro bk)|(refine stA ?_));first|refine⟨_,EndsA,ZjW,?_⟩|refine fin ?_)|(refine jn ?_;(try intro F);(first|(refine bx ?_;intro bk)|(refine stA ?_)|(apply Zac;first|exact ZiG|exact PuA));first|refine⟨_,EndsA,ZjW,?_⟩|refine fin ?_)|(apply RD_W;rfl;intro bk))
      exact⟨k+1,OA,⟨OA,hi⟩,SFA,SOA⟩
 simp only[decide_eq_false_iff_not,Int.ofNat_lt]at hc
 rw[List.drop_eq_nil_of_le (by omega),Zbf]at hi
 subst hi
 rw[Option.none_or]
 clear hk hc
 repeat (first|refine Zhh ?_|(refine jn ?_;(try intro F);(refine bx ?_;intro bk);refine fin ?_)|(apply RD_W;rfl;intro bk))
 refine Zai [(1,.pointer (some ⟨bs,0,none⟩)),(2,.pointer (some ⟨b2,0,none⟩))] [.blk b2 [.int .i64 0,.int .i64 0,.int .i64 0] 138,.blk bs [.slice Ar a.rules.length cr,.slice Az a.zones.length cz,.slice Al a.links.length cl,.slice As a.shifts.length cs] 27]
  (fun k:Nat=>[(8,.int .i64 k)]) (fun _=>[]) (fun k=>k<=a.links.length/\Zbe a (a.links.drop k) k=R3) (fun k=>a.links.length - k) 0 SFA SOA ⟨Nat.zero_le _,h3⟩ ?_
 clear h3 k
 rintro k ⟨hk,hi⟩
 repeat (first|refine Zhh ?_|(refine jn ?_;(try intro F);(refine bx ?_;intro bk);refine fin ?_)|(apply RD_W;rfl;intro bk))
 refine Zaf rfl (fun hc=>?_) (fun hc=>?_)
 ·simp only[decide_eq_true_eq,Int.ofNat_lt]at hc
  obtain⟨hna,hca⟩:=hA.l.rd k _ (List.getElem?_eq_getElem hc)
  rw[Zag hc,Zbe]at hi
  generalize a.links[k]=z at *
  have hfi:=hfs z.name
  have hfe:=hfe z.name
  generalize ZbR a (a.links.length+1) [] z.name=q1 at *
  generalize Zh9 a (a.links.length+1) z.name=q2 at *
  by_cases h11:q1.2=11
  ·rw[if_pos h11]at hi
   subst hi
   have b1:decide (q2.2=11)=true:=decide_eq_true (hfe.1 h11)
   simp only[ptV,plV,Zaq.enc]
   repeat (first|(apply RL_pu;rfl;exact ZmJ)|(apply RD_Q;rfl;rfl;decide +kernel;rfl;rfl;exact Zth)|refine walk1 ?_|(refine jg ?_;(try intro F);(first|(refine Zab hfi ?_)|(refine bx ?_;intro bk)|(refine stA ?_));first|refine⟨_,EndsA,ZpA,?_⟩|refine fin ?_)|(refine jn ?_;(try intro F);(first|(refine bx ?_;intro bk)|(refine stA ?_)|(apply Zac;first|exact ZmJ|exact PuA));first|refine⟨_,EndsA,ZpA,?_⟩|refine fin ?_)|(apply RD_W;rfl;intro bk))
   exact rtC
  ·rw[if_neg h11]at hi
   have b1:decide (q2.2=11)=false:=decide_eq_false (fun e=>h11 (hfe.2 e))
   repeat (first|(apply RL_pu;rfl;exact ZmJ)|(apply RD_Q;rfl;rfl;decide +kernel;rfl;rfl;exact Zth)|refine walk1 ?_|(refine jg ?_;(try intro F);(first|(refine Zab hfi ?_)|(refine bx ?_;intro bk)|(refine stA ?_));first|refine⟨_,EndsA,ZpA,?_⟩|refine fin ?_)|(refine jn ?_;(try intro F);(first|(refine bx ?_;intro bk)|(refine stA ?_)|(apply Zac;first|exact ZmJ|exact PuA));first|refine⟨_,EndsA,ZpA,?_⟩|refine fin ?_)|(apply RD_W;rfl;intro bk))
   exact⟨k+1,OA,⟨OA,hi⟩,SFA,SOA⟩
 simp only[decide_eq_false_iff_not,Int.ofNat_lt]at hc
 rw[List.drop_eq_nil_of_le (by omega),Zbe]at hi
 subst hi
 simp only[ptV,plV,Zaq.enc]
 repeat (first|refine Zhh ?_|(refine jn ?_;(try intro F);(refine bx ?_;intro bk);refine fin ?_)|(apply RD_W;rfl;intro bk))
 exact rtC
end Go.Proofs.YtpipekfmecikmaaGreatDoor
