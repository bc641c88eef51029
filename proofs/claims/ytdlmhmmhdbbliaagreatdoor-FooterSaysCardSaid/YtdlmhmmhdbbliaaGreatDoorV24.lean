/- Parts of the proof. -/
import Derived.Test.YtdlmhmmhdbbliaaGreatDoorV23
import Derived.Test.YtdlmhmmhdbbliaaGreatDoorV16
import Derived.Test.YtdlmhmmhdbbliaaGreatDoorV06
import Derived.Test.YtdlmhmmhdbbliaaGreatDoorV18
set_option maxHeartbeats 4000000
set_option linter.unusedVariables false
set_option linter.unusedSimpArgs false
namespace Go.Proofs.YtdlmhmmhdbbliaaGreatDoor
open Go Go.RowKit Go.Wk
attribute [local irreducible] W RL Does Zau Zak retQ Calls Pu Stp RD Qy Ay Zaj
theorem Zwd (l:List Zab):(Zfx l).1<=l.length:=by
 unfold Zfx
 split
 ·rename_i x h
  obtain⟨j,e⟩:=x
  have:=ZiV _ l 0 j e h
  simp only at this ⊢
  omega
 ·repeat' split
  all_goals exact Nat.zero_le _
theorem ZlQ {G:Prop}(h:G:=by(first|(apply ZaI;rfl;rfl;omega;omega;(intro w' _ hO;exact(Za0 (hO.of (A := .row (.slice An N.length cn) 9 1 N.length (N.flatMap Za2)) (by repeat' constructor)) hg1).1))|(apply ZlG;rfl;(focus repeat' constructor);exact hg1))):G:=h
theorem Zrn (Ar Az Al As:Option Addr)(cr cz cl cs:Nat)(a:Zai)(w:World)(hG:Glob w)(hA:Zav w Ar Az Al As cr cz cl cs a)(hS:ZhV a)(hV:SavI a) :
  Does Tryz.prog 88 [srcV Ar Az Al As cr cz cl cs a] w (fun v O=>v=ptV (ZjL a)/\O=[]):=by
 have hn:=hS.nr
 have hnm:=fun w' (hw:Bel w.heap.size w w')=>Zrh Ar Az Al As cr cz cl cs a w' (hA.up hw) hn
 have hNm:=Zg6 a.rules []
 have hNl:=Zg7 a.rules []
 unfold ZjL
 generalize Zb8 a.rules []=N at *
 simp only[List.length_nil,Nat.zero_add]at hNl
 obtain⟨res,hres⟩:∃ res,ZdI a.rules N=res:=⟨_,rfl⟩
 rw[hres]
 refine Zaa Tryz.func88 rfl rfl rfl rfl ?_
 repeat (first|(refine js ?_;(first|(apply Zag (h:=fun w' hw _=>hnm w' hw);rfl;rintro v O' ⟨An,cn,rfl,rfl⟩)|(refine bx ?_;intro bk)))|refine walk ?_)
 rename_i b1
 obtain⟨b2,hb2⟩:∃ b2,bk=b2:=⟨_,rfl⟩
 rw[hb2]
 clear hb2 bk
 refine Zao [(1,.pointer (some ⟨b1,0,none⟩)),(2,.pointer (some ⟨b2,0,none⟩)),(12,.slice An N.length cn),(13,.int .i64 N.length)] [.row (.slice An N.length cn) 9 1 N.length (N.flatMap Za2),.blk b2 [.int .i64 0,.int .i64 0,.int .i64 0] 131,.blk b1 [.slice Ar a.rules.length cr,.slice Az a.zones.length cz,.slice Al a.links.length cl,.slice As a.shifts.length cs] 173]
  (fun k:Nat=>[(14,.int .i64 k)]) (fun _=>[]) (fun k=>k<=N.length/\ZdI a.rules (N.drop k)=res) (fun k=>N.length - k) 0 SFA SOA ⟨Nat.zero_le _,hres⟩ ?_
 clear hnm hres
 rintro k ⟨hk,hi⟩
 repeat (first|(refine js ?_;(refine bx ?_;intro bk))|refine walk ?_)
 refine Zaf rfl (fun hc=>?_) (fun hc=>?_)
 ·simp only[decide_eq_true_eq,Int.ofNat_lt]at hc
  have hg1:(N.flatMap Za2)[k*1]?=some (.string N[k]):=by
   have:=ZaF (enc:=Za2) (fun _=>rfl) N k _ 0 (.string N[k]) (List.getElem?_eq_getElem hc) rfl
   simpa using this
  have hxm:=hNm _ (List.getElem_mem hc)
  rw[Zap hc,ZdI]at hi
  generalize N[k]=x at *
  have hxs:x.size<=1000000000:=by
   rcases hxm with h|⟨r,hr,rfl⟩
   ·cases h
   ·exact(hS.rs r hr).1
  have hof:=fun w' (hw:Bel w.heap.size w w')=>Zfe Ar Az Al As cr cz cl cs a x w' (hA.up hw) hn
  have hset:=fun w'=>Zwc x (by omega) w'
  have hRs:∀ r∈ofB a.rules x,r∈a.rules:=fun r h=>Ztb h
  have hRl:=Zoi a.rules x
  have hck:=fun A3 c3 w' (hw:Bel w.heap.size w w') h=>Zmc A3 c3 (ofB a.rules x) w' (hG.up hw) h (by omega) (fun r hr=>⟨hV r (hRs r hr),by have:=(hS.rs r (hRs r hr)).2;omega⟩)
  have hap:=fun(hz:(Zfx (ofB a.rules x)).2=0) A3 c3 w' (hw:Bel w.heap.size w w') h=>ZrX A3 c3 (ofB a.rules x) w' (hG.up hw) h (by omega) (fun r hr=>(Zmd hz r hr).1)
  have hru0:=fun(i:Nat) (hi:i<=1000000) w' (hw:Bel w.heap.size w w')=>ZsK Ar Az Al As cr cz cl cs a x i w' (hA.up hw) hn hi
  have hcl:=Zwd (ofB a.rules x)
  have har:=ZoY (ofB a.rules x)
  unfold ZcS at hi
  generalize ofB a.rules x=R at *
  cases hsb:setB x with
  | false =>
   rw[hsb]at hi hset
   rw[if_pos rfl]at hi
   dsimp only at hi
   have hru:=hru0 0 (Nat.zero_le _)
   generalize ZdL x a.rules 0 0=pl at *
   obtain⟨p1,p2,p3⟩:=pl
   simp only[plV,ZaB.enc]at hru
   subst hi
   simp only[ptV,plV,ZaB.enc]
   repeat (first|(apply RL_pu;rfl;exact ZlQ)|(refine js ?_;(first|(apply Zag (h:=fun w' hw _=>hof w' hw);rfl;rintro v O' ⟨A3,c3,rfl,rfl⟩)|(refine Zac (fun w' hw=>hset w') ?_)|(refine Zac hru ?_)|(refine bx ?_;intro bk)))|refine walk1 ?_)
   exact rtC
  | true =>
   rw[hsb]at hi hset
   rw[if_neg (by decide)]at hi
   generalize Zfx R=rc at *
   obtain⟨ci,ce⟩:=rc
   dsimp only at hi hck hcl hap
   by_cases hce:ce=0
   ·subst hce
    replace hap:=hap rfl
    rw[if_neg (fun h=>h rfl)]at hi
    generalize Zjk R=ap at *
    cases ap with
    | none =>
     simp only[apV,Zad.enc,dEv0]at hap
     dsimp only at hi
     repeat (first|(apply RL_pu;rfl;exact ZlQ)|(refine js ?_;(first|(apply Zag (h:=fun w' hw _=>hof w' hw);rfl;rintro v O' ⟨A3,c3,rfl,rfl⟩)|(refine Zac (fun w' hw=>hset w') ?_)|(refine Za1 (fun w' hw hO=>hck A3 c3 w' hw (Zbn Zab.len (hO.of (A := .row (.slice A3 R.length c3) 82 11 R.length (R.flatMap Zab.enc)) (by repeat' constructor)))) ?_)|(refine Za1 (fun w' hw hO=>hap A3 c3 w' hw (Zbn Zab.len (hO.of (A := .row (.slice A3 R.length c3) 82 11 R.length (R.flatMap Zab.enc)) (by repeat' constructor)))) ?_)|(refine bx ?_;intro bk)))|refine walk1 ?_)
     exact⟨k+1,OA,⟨OA,hi⟩,SFA,SOA⟩
    | some e =>
     obtain⟨j,hj,hjl⟩:=har e rfl
     obtain⟨ey,er,en⟩:=e
     dsimp only at hj
     subst hj
     simp only[apV,Zad.enc]at hap
     simp only[Int.toNat_natCast]at hi
     have hru:=hru0 j (by omega)
     generalize ZdL x a.rules j 0=pl at *
     obtain⟨p1,p2,p3⟩:=pl
     simp only[plV,ZaB.enc]at hru
     subst hi
     simp only[ptV,plV,ZaB.enc]
     repeat (first|(apply RL_pu;rfl;exact ZlQ)|(refine js ?_;(first|(apply Zag (h:=fun w' hw _=>hof w' hw);rfl;rintro v O' ⟨A3,c3,rfl,rfl⟩)|(refine Zac (fun w' hw=>hset w') ?_)|(refine Za1 (fun w' hw hO=>hck A3 c3 w' hw (Zbn Zab.len (hO.of (A := .row (.slice A3 R.length c3) 82 11 R.length (R.flatMap Zab.enc)) (by repeat' constructor)))) ?_)|(refine Za1 (fun w' hw hO=>hap A3 c3 w' hw (Zbn Zab.len (hO.of (A := .row (.slice A3 R.length c3) 82 11 R.length (R.flatMap Zab.enc)) (by repeat' constructor)))) ?_)|(refine Zac hru ?_)|(refine bx ?_;intro bk)))|refine walk1 ?_)
     exact rtC
   ·rw[if_pos hce]at hi
    dsimp only at hi
    have hb:decide (ce=0)=false:=decide_eq_false hce
    have hb2:(!decide (ce=0))=true:=by rw[hb];rfl
    have hru:=hru0 ci (by omega)
    generalize ZdL x a.rules ci 0=pl at *
    obtain⟨p1,p2,p3⟩:=pl
    simp only[plV,ZaB.enc]at hru
    subst hi
    simp only[ptV,plV,ZaB.enc]
    repeat (first|(apply RL_pu;rfl;(first|exact ZlQ|(apply Zaw;rfl;rfl;exact hb)|(apply Zaz;rfl;rfl;exact hb2)))|(refine js ?_;(first|(apply Zag (h:=fun w' hw _=>hof w' hw);rfl;rintro v O' ⟨A3,c3,rfl,rfl⟩)|(refine Zac (fun w' hw=>hset w') ?_)|(refine Za1 (fun w' hw hO=>hck A3 c3 w' hw (Zbn Zab.len (hO.of (A := .row (.slice A3 R.length c3) 82 11 R.length (R.flatMap Zab.enc)) (by repeat' constructor)))) ?_)|(refine Zac hru ?_)|(refine bx ?_;intro bk)))|refine walk1 ?_)
    exact rtC
 ·simp only[decide_eq_false_iff_not,Int.ofNat_lt]at hc
  rw[List.drop_eq_nil_of_le (by omega),ZdI]at hi
  subst hi
  repeat (first|(refine js ?_;(refine bx ?_;intro bk))|refine walk ?_)
  exact rtC
theorem ZAh {α:Type}{w:World}{A:Option Addr}{c sz:Nat}{enc:α->List Value}{l:List α}(h:RdSl w A c enc sz l)(k:Nat):RdSl w A c enc sz (l.take k) where
 le:=by have:=h.le;rw[List.length_take];omega
 cap:=h.cap
 rd:=fun j x hj=>h.rd j x (by
  rw[List.getElem?_take]at hj
  split at hj
  ·exact hj
  ·cases hj)
theorem ZvR {G:Prop}(h:G:=by(first|exact PuI|(apply Zaw;rfl;rfl;exact hb))):G:=h
theorem Zpu {G:Prop}(h:G:=by(first|exact ZvR|(apply Pu_sliceH;rfl;rfl;omega;omega))):G:=h
theorem Zsm {G G':Prop}(k:G')(h:Hold G'->G:=by intro k9;(first|(apply RL_pu;rfl;exact Zpu)|(refine js ?_;(first|(refine Za1 (fun w' hw hO=>hot A3 c3 w' (Zbn Zab.len (hO.of (A := .row (.slice A3 R.length c3) 82 11 R.length (R.flatMap Zab.enc)) (by repeat' constructor)))) ?_)|(refine Zac hco ?_)|(refine Za1 (fun w' hw hO=>hle A3 c3 w' (Zbn Zab.len (hO.of (A := .row (.slice A3 R.length c3) 82 11 R.length (R.flatMap Zab.enc)) (by repeat' constructor)))) ?_)))|refine walk1 ?_);exact k9.out):G:=h ⟨k⟩
theorem ZmD (Ar Az Al As:Option Addr)(cr cz cl cs:Nat)(a:Zai)(w:World)(hA:Zav w Ar Az Al As cr cz cl cs a)(hS:ZhV a) :
  Does Tryz.prog 89 [srcV Ar Az Al As cr cz cl cs a] w (fun v O=>v=ptV (ZbK a a.shifts [] 0)/\O=[]):=by
 have hn:=hS.nr
 have hns:=hS.ns
 have hcap:=hA.s.le
 obtain⟨res,hres⟩:∃ res,ZbK a a.shifts [] 0=res:=⟨_,rfl⟩
 rw[hres]
 refine Zaa Tryz.func89 rfl rfl rfl rfl ?_
 repeat (first|(refine js ?_;(refine bx ?_;intro bk))|refine walk ?_)
 rename_i b1
 obtain⟨b2,hb2⟩:∃ b2,bk=b2:=⟨_,rfl⟩
 rw[hb2]
 clear hb2 bk
 refine Zao [(1,.pointer (some ⟨b1,0,none⟩)),(2,.pointer (some ⟨b2,0,none⟩)),(12,.slice As a.shifts.length cs),(13,.int .i64 a.shifts.length)] [.blk b2 [.int .i64 0,.int .i64 0,.int .i64 0] 131,.blk b1 [.slice Ar a.rules.length cr,.slice Az a.zones.length cz,.slice Al a.links.length cl,.slice As a.shifts.length cs] 173]
  (fun k:Nat=>[(14,.int .i64 k)]) (fun _=>[]) (fun k=>k<=a.shifts.length/\ZbK a (a.shifts.drop k) (a.shifts.take k) k=res) (fun k=>a.shifts.length - k) 0 SFA SOA ⟨Nat.zero_le _,hres⟩ ?_
 clear hres
 rintro k ⟨hk,hi⟩
 repeat (first|(refine js ?_;(refine bx ?_;intro bk))|refine walk ?_)
 refine Zaf rfl (fun hc=>?_) (fun hc=>?_)
 ·simp only[decide_eq_true_eq,Int.ofNat_lt]at hc
  obtain⟨hna,hca⟩:=hA.s.rd k _ (List.getElem?_eq_getElem hc)
  have htk:=List.take_append_getElem hc
  have hco:=fun w' (hw:Bel w.heap.size w w')=>Zlp As cs (a.shifts.take k) a.shifts[k] w' ((ZAh hA.s k).up hw)
  rw[show(a.shifts.take k).length=k by rw[List.length_take];omega]at hco
  rw[Zap hc,ZbK]at hi
  rw[htk]at hi
  generalize a.shifts[k]=x at *
  have hof:=fun w' (hw:Bel w.heap.size w w')=>Zfe Ar Az Al As cr cz cl cs a x w' (hA.up hw) hn
  have hot:=fun A3 c3 w' h=>Zka A3 c3 (ofB a.rules x) w' h
  have hle:=fun A3 c3 w' h=>Zc1 A3 c3 (ofB a.rules x) w' h
  generalize ofB a.rules x=R at *
  generalize Zdc R=od at *
  obtain⟨ox,ob⟩:=od
  dsimp only at hi hot
  by_cases hR:R=[]
  ·rw[if_pos hR]at hi
   subst hi
   have hb:decide ((R.length:Int)=0)=true:=by rw[hR];rfl
   simp only[ptV,plV,ZaB.enc]
   repeat (first|(apply RL_pu;rfl;exact ZvR)|(refine js ?_;(first|(apply Zag (h:=fun w' hw _=>hof w' hw);rfl;rintro v O' ⟨A3,c3,rfl,rfl⟩)|(refine Za1 (fun w' hw hO=>hot A3 c3 w' (Zbn Zab.len (hO.of (A := .row (.slice A3 R.length c3) 82 11 R.length (R.flatMap Zab.enc)) (by repeat' constructor)))) ?_)|(refine bx ?_;intro bk)))|refine walk1 ?_)
   exact rtC
  rw[if_neg hR]at hi
  have hb:decide ((R.length:Int)=0)=false:=decide_eq_false (fun h=>hR (List.eq_nil_of_length_eq_zero (by omega)))
  cases hm:memB x (a.shifts.take k) with
  | true =>
   rw[hm]at hi hco
   rw[if_pos rfl]at hi
   subst hi
   simp only[ptV,plV,ZaB.enc]
   repeat (first|(apply RL_pu;rfl;exact Zpu)|(refine js ?_;(first|(apply Zag (h:=fun w' hw _=>hof w' hw);rfl;rintro v O' ⟨A3,c3,rfl,rfl⟩)|(refine Za1 (fun w' hw hO=>hot A3 c3 w' (Zbn Zab.len (hO.of (A := .row (.slice A3 R.length c3) 82 11 R.length (R.flatMap Zab.enc)) (by repeat' constructor)))) ?_)|(refine Zac hco ?_)|(refine bx ?_;intro bk)))|refine walk1 ?_)
   exact rtC
  | false =>
   rw[hm]at hi hco
   rw[if_neg (by decide)]at hi
   generalize Zah R=lt at *
   by_cases hl:lt=0
   ·subst hl
    cases ob with
    | false =>
     rw[if_pos (.inr rfl)]at hi
     subst hi
     simp only[ptV,plV,ZaB.enc]
     repeat (first|refine Zsm ?_|(refine js ?_;(first|(apply Zag (h:=fun w' hw _=>hof w' hw);rfl;rintro v O' ⟨A3,c3,rfl,rfl⟩)|(refine bx ?_;intro bk))))
     exact rtC
    | true =>
     rw[if_neg (by rintro(h|h);exact h rfl;cases h)]at hi
     repeat (first|refine Zsm ?_|(refine js ?_;(first|(apply Zag (h:=fun w' hw _=>hof w' hw);rfl;rintro v O' ⟨A3,c3,rfl,rfl⟩)|(refine bx ?_;intro bk))))
     exact⟨k+1,OA,⟨OA,hi⟩,SFA,SOA⟩
   ·rw[if_pos (.inl hl)]at hi
    subst hi
    have hb2:(!decide (lt=0))=true:=by rw[decide_eq_false hl];rfl
    simp only[ptV,plV,ZaB.enc]
    repeat (first|(apply RL_pu;rfl;(first|exact Zpu|(apply Zaz;rfl;rfl;exact hb2)))|(refine js ?_;(first|(apply Zag (h:=fun w' hw _=>hof w' hw);rfl;rintro v O' ⟨A3,c3,rfl,rfl⟩)|(refine Za1 (fun w' hw hO=>hot A3 c3 w' (Zbn Zab.len (hO.of (A := .row (.slice A3 R.length c3) 82 11 R.length (R.flatMap Zab.enc)) (by repeat' constructor)))) ?_)|(refine Zac hco ?_)|(refine Za1 (fun w' hw hO=>hle A3 c3 w' (Zbn Zab.len (hO.of (A := .row (.slice A3 R.length c3) 82 11 R.length (R.flatMap Zab.enc)) (by repeat' constructor)))) ?_)|(refine bx ?_;intro bk)))|refine walk1 ?_)
    exact rtC
 ·simp only[decide_eq_false_iff_not,Int.ofNat_lt]at hc
  rw[List.drop_eq_nil_of_le (by omega),ZbK]at hi
  subst hi
  repeat (first|(refine js ?_;(refine bx ?_;intro bk))|refine walk ?_)
  exact rtC
theorem ZvQ {G:Prop}(h:G:=by(apply Zcr;rfl;rfl;exact b1)):G:=h
theorem Zko (off save:Int)(ho:I64 off)(hs:I64 save)(w:World):Does Tryz.prog 182 [.int .i64 off,.int .i64 save] w (fun v O=>v = .bool (Zcl off save)/\O=[]):=by
 have hsm:=fun w'=>Zjn off save ho hs w'
 refine Zaa Tryz.func182 rfl rfl rfl rfl ?_
 cases hok:Zdr (off+save) with
 | false =>
  rw[hok]at hsm
  have hb:Zcl off save=false:=by
   unfold Zcl
   by_cases h1 : -54000<=off+save
   ·by_cases h2:off+save<=54000
    ·exfalso
     have:Zdr (off+save)=true:=by unfold Zdr;rw[decide_eq_true (by omega),decide_eq_true (by omega)];rfl
     rw[this]at hok
     cases hok
    ·rw[decide_eq_false h2,Bool.and_false]
   ·rw[decide_eq_false h1,Bool.false_and]
  rw[hb]
  repeat (first|refine und ?_|(refine js ?_;(refine Zac (fun w' hw=>hsm w') ?_))|refine walk ?_)
  exact rtA
 | true =>
  rw[hok,if_pos rfl]at hsm
  unfold Zcl
  generalize off+save=x at *
  by_cases h1 : -54000<=x
  ·have b1:decide (-54000<=x)=true:=decide_eq_true h1
   rw[b1]
   repeat (first|refine und ?_|(apply RL_pu;rfl;exact ZvQ)|(refine js ?_;(refine Zac (fun w' hw=>hsm w') ?_))|refine walk1 ?_)
   exact rtA
  ·have b1:decide (-54000<=x)=false:=decide_eq_false h1
   rw[b1]
   repeat (first|refine und ?_|(apply RL_pu;rfl;exact ZvQ)|(refine js ?_;(refine Zac (fun w' hw=>hsm w') ?_))|refine walk1 ?_)
   exact rtA
theorem Zgo (Ar Az Al As:Option Addr)(cr cz cl cs:Nat)(a:Zai)(e:DEra)(w:World)(hA:Zav w Ar Az Al As cr cz cl cs a)(hn:a.rules.length<=1000000) :
  Does Tryz.prog 183 [srcV Ar Az Al As cr cz cl cs a,.agg e.enc.toArray] w (Zr7 82 11 Zab.enc (Zbb a.rules e)):=by
 have hof:=fun w' (hw:Bel w.heap.size w w')=>Zfe Ar Az Al As cr cz cl cs a e.set w' (hA.up hw) hn
 unfold Zbb
 obtain⟨off,kind,save,set,format,til⟩:=e
 dsimp only at hof ⊢
 simp only[DEra.enc]
 refine Zaa Tryz.func183 rfl rfl rfl rfl ?_
 by_cases hk:kind=2
 ·subst hk
  rw[if_pos rfl]
  generalize ofB a.rules set=R at *
  repeat (first|(refine js ?_;(first|(apply Zag (h:=fun w' hw _=>hof w' hw);rfl;rintro v O' ⟨A3,c3,rfl,rfl⟩)|(refine bx ?_;intro bk)))|refine walk ?_)
  exact ret_1 _ [.row (.slice A3 R.length c3) 82 11 R.length (R.flatMap Zab.enc)] (.tmp rfl) SOA ⟨A3,c3,rfl,rfl⟩
 ·rw[if_neg hk]
  have hb:(!decide (kind=2))=true:=by rw[decide_eq_false hk];rfl
  refine ZfA 82 11 ?_
  repeat (first|(apply RL_pu;rfl;(apply Zaz;rfl;rfl;exact hb))|(refine js ?_;(refine bx ?_;intro bk))|refine walk1 ?_)
  exact ret_1 _ [.row (.slice none 0 0) 82 11 0 []] (.tmp rfl) SOA ⟨none,0,rfl,rfl⟩
def Zci (x:Int × ByteArray):List Value:=[.int .i64 x.1,.string x.2]
theorem Zci.len (x:Int × ByteArray):(Zci x).length=2:=rfl
structure StG where
 k:Nat
 A:Option Addr
 c:Nat
 m:Nat
 ys:List Value
def StR (l:List (Int × ByteArray))(v:Value)(O:List It):Prop:=Zr7 151 2 Zci l v O\/∃ b x,l=[x]/\v = .slice (some ⟨b,0,none⟩) 1 1/\O=[.blk b (Zci x) 151]
theorem ZvP {G:Prop}(h:G:=by(apply Zaw;rfl;rfl;exact b1)):G:=h
theorem Zl3 (Ar Az Al As:Option Addr)(cr cz cl cs:Nat)(a:Zai)(e:DEra)(w:World)(hA:Zav w Ar Az Al As cr cz cl cs a)(hn:a.rules.length<=1000000) :
  Does Tryz.prog 185 [srcV Ar Az Al As cr cz cl cs a,.agg e.enc.toArray] w (StR (ZaR a.rules e)):=by
 have hst:=fun w' (hw:Bel w.heap.size w w')=>Zgo Ar Az Al As cr cz cl cs a e w' (hA.up hw) hn
 have hRl:(Zbb a.rules e).length<=1000000:=by
  unfold Zbb
  split
  ·exact Nat.le_trans (Zoi _ _) hn
  ·exact Nat.zero_le _
 unfold ZaR
 generalize Zbb a.rules e=R at *
 obtain⟨off,kind,save,set,format,til⟩:=e
 dsimp only at hst ⊢
 simp only[DEra.enc]at hst ⊢
 refine Zaa Tryz.func185 rfl rfl rfl rfl ?_
 by_cases hk1:kind=1
 ·subst hk1
  rw[if_pos rfl]
  repeat (first|(refine js ?_;(refine bx ?_;intro bk))|refine walk ?_)
  exact ret_1 _ [.blk bk [.int .i64 save,.string ByteArray.empty] 151] (.tmp rfl) SOA (.inr ⟨bk,(save,ByteArray.empty),rfl,rfl,rfl⟩)
 have b1:decide (kind=1)=false:=decide_eq_false hk1
 rw[if_neg hk1]
 by_cases hk2:kind=2
 ·subst hk2
  rw[if_pos rfl]
  repeat (first|(apply RL_pu;rfl;exact ZvP)|(refine js ?_;(first|(apply Zag (h:=fun w' hw _=>hst w' hw);rfl;rintro v O' ⟨A3,c3,rfl,rfl⟩)|(refine bx ?_;intro bk)))|refine walk1 ?_)
  refine ZfA 151 2 ?_
  refine Zao [(20,.slice A3 R.length c3),(21,.int .i64 R.length)] [.row (.slice A3 R.length c3) 82 11 R.length (R.flatMap Zab.enc)] (fun g:StG=>[(5,.slice g.A g.m g.c),(22,.int .i64 g.k)]) (fun g=>[.row (.slice g.A g.m g.c) 151 2 g.m g.ys])
   (fun g=>g.k<=R.length/\g.m=g.k/\g.ys=((R.take g.k).map fun r=>(r.save,r.letter)).flatMap Zci) (fun g=>R.length - g.k) ⟨0,none,0,0,[]⟩ SFA SOA ⟨Nat.zero_le _,rfl,rfl⟩ ?_
  rintro⟨k,A1,c1,m,ys⟩ ⟨hkl,hm,hy⟩
  dsimp only at hkl hm hy ⊢
  repeat (first|(refine js ?_;(refine bx ?_;intro bk))|refine walk ?_)
  refine Zaf rfl (fun hc=>?_) (fun hc=>?_)
  ·simp only[decide_eq_true_eq,Int.ofNat_lt]at hc
   have hg1:=ZaF Zab.len R k _ 0 _ (List.getElem?_eq_getElem hc) rfl
   have hgn:∀ j v,(Zab.enc R[k])[j]?=some v->(R.flatMap Zab.enc)[k*11+j]?=some v:=fun j v hj=>ZaF Zab.len R k _ j v (List.getElem?_eq_getElem hc) hj
   have htk:=List.take_append_getElem hc
   generalize R[k]=r at *
   simp only[Zab.enc]at hgn hg1
   repeat (first|(apply RL_pu;rfl;(first|(apply ZaI;rfl;rfl;omega;omega;(intro w' _ hO;exact(Za0 (hO.of (A := .row (.slice A3 R.length c3) 82 11 R.length (R.flatMap Zab.enc)) (by repeat' constructor)) hg1).1))|(apply Zba;rfl;(focus repeat' constructor);exact hgn;rfl)))|(refine js ?_;(first|(apply ZaE;rfl;rfl;(intro A' c';(focus repeat' constructor));(intro w' _ hO;exact ZbP (hO.of (by repeat' constructor)));rfl;rfl;(simp only[maxLen];omega);omega;intro A' c' hc1 hc2 hc3)|(refine bx ?_;intro bk)))|refine walk1 ?_)
   exact⟨⟨k+1,A',c',m+1,ys++[.int .i64 r.save,.string r.letter]⟩,OA,⟨OA,OA,by dsimp only;rw[hy,<- htk];simp[Zci]⟩,SFA,SOA⟩
  ·obtain rfl:k=R.length:=by simp only[decide_eq_false_iff_not,Int.ofNat_lt]at hc;omega
   rw[List.take_length]at hy
   subst hm hy
   repeat (first|(refine js ?_;(refine bx ?_;intro bk))|refine walk ?_)
   exact ret_1 _ [.row (.slice A1 R.length c1) 151 2 R.length ((R.map fun r=>(r.save,r.letter)).flatMap Zci)] (.tmp rfl) SOA (.inl ⟨A1,c1,by rw[List.length_map],by rw[List.length_map]⟩)
 have b2:decide (kind=2)=false:=decide_eq_false hk2
 rw[if_neg hk2]
 repeat (first|(apply RL_pu;rfl;(first|exact ZvP|(apply Zaw;rfl;rfl;exact b2)))|(refine js ?_;(refine bx ?_;intro bk))|refine walk1 ?_)
 exact ret_1 _ [.blk bk [.int .i64 0,.string ByteArray.empty] 151] (.tmp rfl) SOA (.inr ⟨bk,(0,ByteArray.empty),rfl,rfl,rfl⟩)
theorem Zij (Ar Az Al As:Option Addr)(cr cz cl cs:Nat)(a:Zai)(e:DEra)(w:World)(hA:Zav w Ar Az Al As cr cz cl cs a)(hn:a.rules.length<=1000000) :
  Does Tryz.prog 185 [srcV Ar Az Al As cr cz cl cs a,.agg e.enc.toArray] w (Zr7 151 2 Zci (ZaR a.rules e)) :=
 (Zl3 Ar Az Al As cr cz cl cs a e w hA hn).monoH fun v O base w' hR hH=>by
  rcases hR with h|⟨b,x,hl,rfl,rfl⟩
  ·exact⟨O,h,hH⟩
  ·rw[hl]
   exact⟨_,⟨some ⟨b,0,none⟩,1,rfl,rfl⟩,hH.toRow (m:=1) 2 rfl (by decide) (by simpa using Upd.here)⟩
end Go.Proofs.YtdlmhmmhdbbliaaGreatDoor
namespace Go.Wk
open Go Go.RowKit
theorem Zxg {P:Program}{n:Nat}{wr:World}{fr:Fr}{O:List It}{ty t t':TypeId}{α:Type}[DecidableEq α]{enc:α->List Value}{x y:Operand}{i j:α}{b:Bool}[hE:EqE P t α enc](hx:ev fr x=some (.agg (enc i).toArray))(hy:ev fr y=some (.agg (enc j).toArray))(h:(!decide (i=j))=b) :
  Pu P n wr fr O (.binOp .neq t x y t') ty (.bool b):=h▸Pu_neqE hx hy
end Go.Wk
namespace Go.Proofs.YtdlmhmmhdbbliaaGreatDoor
open Go Go.RowKit Go.Wk
attribute [local irreducible] W RL Does Zau Zak retQ Calls Pu Stp RD Qy Ay Zaj
theorem ZmQ (A:Option Addr)(c:Nat)(l:List (Int × ByteArray))(f:FuncId)[Body Tryz.prog f](us cs:List Value)(p:Int × ByteArray->Bool)(w:World)(hA:RdSl w A c Zci 2 l)
  (hf:∀ r∈l,∀ w',Bel w.heap.size w w'->Does Tryz.prog f (us++[.agg (Zci r).toArray]++cs) w' (fun v O=>v = .bool (p r)/\O=[])) :
  Does Tryz.prog 216 [.slice A l.length c,.func (.func f) us.toArray cs.toArray] w (fun v O=>v = .int .i64 (Zb6 p l 0)/\O=[]):=by
 have hs1:=hA.le
 have hs2:=hA.cap
 unfold maxLen at hs2
 generalize hres:Zb6 p l 0=res
 refine Zaa Tryz.func216 rfl rfl rfl rfl ?_
 repeat (first|refine walk ?_)
 refine Zao [(0,_),(1,_),(4,_),(7,_)] _ (fun k:Nat=>[(8,.int .i64 k)]) (fun _=>[]) (fun k=>k<=l.length/\Zb6 p (l.drop k) k=res) (fun k=>l.length - k) 0 ⟨rfl,rfl,rfl,rfl,rfl,trivial⟩ (.refl _) ⟨by omega,by simpa using hres⟩ ?_
 rintro k ⟨hk,hi⟩
 repeat (first|refine walk ?_)
 refine Zaf rfl (fun hc=>?_) (fun hc=>?_)
 ·simp only[decide_eq_true_eq,Int.ofNat_lt]at hc
  obtain⟨hna,hca⟩:=hA.rd k _ (List.getElem?_eq_getElem hc)
  have hnb:=hna
  have hcb:=hca
  rw[Zap hc,Zb6]at hi
  have hrm:=List.getElem_mem hc
  generalize l[k]=r at *
  repeat (first|(apply RL_pu;rfl;exact PuI)|(refine js ?_;(refine ZgE (fun w' hw _=>hf r hrm w' hw) ?_))|refine walk1 ?_)
  refine Zaf rfl (fun h3=>?_) (fun h3=>?_)
  ·repeat (first|refine walk ?_)
   rw[if_pos h3]at hi
   exact ret_1 _ [] (.tmp rfl) .nil ⟨by rw[<- hi],rfl⟩
  repeat (first|refine walk ?_)
  rw[h3]at hi
  exact⟨k+1,by omega,⟨by omega,hi⟩,SFA,SOA⟩
 simp only[decide_eq_false_iff_not,Int.ofNat_lt]at hc
 repeat (first|refine walk ?_)
 exact ret_1 _ [] (.tmp rfl) .nil ⟨by rw[<- hi,List.drop_eq_nil_of_le (by omega)];rfl,rfl⟩
theorem Zjc (A:Option Addr)(c:Nat)(l:List (Int × ByteArray))(f:FuncId)[Body Tryz.prog f](us cs:List Value)(p:Int × ByteArray->Bool)(w:World)(hA:RdSl w A c Zci 2 l)
  (hf:∀ r∈l,∀ w',Bel w.heap.size w w'->Does Tryz.prog f (us++[.agg (Zci r).toArray]++cs) w' (fun v O=>v = .bool (p r)/\O=[])) :
  Does Tryz.prog 184 [.slice A l.length c,.func (.func f) us.toArray cs.toArray] w (fun v O=>v = .bool (l.any p)/\O=[]):=by
 have h:=fun w' (hw:Bel w.heap.size w w')=>ZmQ A c l f us cs p w' (hA.up hw) fun r hr w2 h2=>hf r hr w2 (hw.trans (h2.mono hw.size))
 rw[<- ZiY p l 0]
 generalize Zb6 p l 0=k at *
 refine Zaa Tryz.func184 rfl rfl rfl rfl ?_
 repeat (first|(refine js ?_;(refine Zac h ?_))|refine walk ?_)
 exact rtA
theorem ZtY (x:Int × ByteArray)(ad:Addr)(off:Int)(w:World)(h:w.cell? ad=some (.int .i64 off))(ho:I64 off)(hx:I64 x.1):Does Tryz.prog 181 [.agg (Zci x).toArray,.pointer (some ad)] w (fun v O=>v = .bool (!Zcl off x.1)/\O=[]):=by
 obtain⟨sv,lt⟩:=x
 dsimp only at hx ⊢
 have hh:=fun w'=>Zko off sv ho hx w'
 generalize Zcl off sv=hb at *
 simp only[Zci]
 refine Zaa Tryz.func181 rfl rfl rfl rfl ?_
 repeat (first|(apply RL_pu;rfl;(apply Pu_loadO1;rfl;exact h))|(refine js ?_;(first|(refine Zac (fun w' hw=>hh w') ?_)|(refine bx ?_;intro bk)))|refine walk1 ?_)
 exact rtA
instance : EqE Tryz.prog 73 ZaY ZaY.enc where
 h r s w:=by
  unfold ZaY.enc
  simp[go_sem,ZdH]
  rcases r with⟨_,_,_,⟨_,_,_⟩,⟨_,_⟩⟩
  rcases s with⟨_,_,_,⟨_,_,_⟩,⟨_,_⟩⟩
  simp only[Zmn,Result.ok.injEq,and_true]
  rw[Bool.eq_iff_iff]
  simp[and_assoc]
 g:=by kernel_rfl
theorem ZnY (e:DEra)(w:World):Does Tryz.prog 186 [.agg e.enc.toArray] w (fun v O=>v = .bool (ZgY e)/\O=[]):=by
 obtain⟨off,kind,save,set,format,til⟩:=e
 unfold ZgY
 dsimp only
 obtain⟨is,year,month,⟨dk,dw,dd⟩,⟨cs,cb⟩⟩:=til
 dsimp only
 obtain⟨n1,e1⟩:∃ b,(!decide (kind=1))=b:=⟨_,rfl⟩
 obtain⟨n2,e2⟩:∃ b,(!decide (save=0))=b:=⟨_,rfl⟩
 obtain⟨n3,e3⟩:∃ b,(!decide (kind=2))=b:=⟨_,rfl⟩
 obtain⟨n4,e4⟩:∃ b,(!decide (set=ByteArray.empty))=b:=⟨_,rfl⟩
 obtain⟨n5,e5⟩:∃ b,(!decide ((⟨false,year,month,⟨dk,dw,dd⟩,⟨cs,cb⟩⟩:ZaY)=dU0))=b:=⟨_,rfl⟩
 rw[e1,e2,e3,e4,e5]
 simp only[DEra.enc]
 refine Zaa Tryz.func186 rfl rfl rfl rfl ?_
 repeat' (first|(apply RL_pu;rfl;(first|(apply Zaz;rfl;rfl;exact e1)|(apply Zaz;rfl;rfl;exact e2)|(apply Zaz;rfl;rfl;exact e3)|(apply ZbW;rfl;rfl;exact e4)|(apply Zxg (i:=(⟨false,year,month,⟨dk,dw,dd⟩,⟨cs,cb⟩⟩:ZaY)) (j:=dU0) (enc:=ZaY.enc);rfl;rfl;exact e5)))|(refine js ?_;(refine bx ?_;intro bk))|refine walk1 ?_|refine und ?_|(refine Zat rfl rfl rfl (fun hc=>?_) (fun hc=>?_))|(refine Zas rfl rfl rfl (fun hc=>?_) (fun hc=>?_))|(refine Zaf rfl (fun hc=>?_) (fun hc=>?_)))
 all_goals exact clo1
end Go.Proofs.YtdlmhmmhdbbliaaGreatDoor
