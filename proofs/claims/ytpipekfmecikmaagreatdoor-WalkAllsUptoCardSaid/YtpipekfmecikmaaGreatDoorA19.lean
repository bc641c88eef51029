/- Parts of the proof. -/
import Derived.Test.YtpipekfmecikmaaGreatDoorA18
set_option maxHeartbeats 0
set_option linter.all false
namespace Go.Proofs.YtpipekfmecikmaaGreatDoor
open Go Go.RowKit Go.Wk Tryz
attribute [local irreducible] W RL Does Zaq Zai retQ Calls Pu Stp RD Qy Ay Zaj
theorem Zg4.i64 {s:DSource}(h:Zg4 s):∀ r∈s.rules,I64 r.save:=fun r a=>by have:=(h r a).1;unfold I64;omega
theorem ZdD {rs:List DRule}{e:DEra}{r:DRule}(h:r∈ZaA rs e):r∈rs:=by
 unfold ZaA at h
 split at h
 ·exact Zov h
 ·cases h
theorem Zez (rs:List DRule)(e:DEra):(ZaA rs e).length<=rs.length:=by
 unfold ZaA
 split
 ·exact Zii _ _
 ·exact Nat.zero_le _
theorem ZfC {rs:List DRule}{e:DEra}(b:∀ r∈rs,I64 r.save)(c:I64 e.save):∀ x∈ZaB rs e,I64 x.1:=by
 intro x a
 unfold ZaB at a
 split at a
 ·simp only[List.mem_singleton]at a;subst a;exact c
 ·split at a
  ·obtain⟨r,h,rfl⟩:=List.mem_map.1 a
   exact b r (ZdD h)
  ·simp only[List.mem_singleton]at a;subst a;exact⟨by decide,by decide⟩
def offB (off:Int)(x:Int × ByteArray):Bool := !Za1 off x.1
structure Zjm (e:DEra):Prop where
 off:I64 e.off
 save:I64 e.save
 kind:I64 e.kind
 fmt:e.format.size<=1000000000
theorem Zpx {G:Prop}(h:G:=by(apply Zau;rfl;rfl;exact b1)):G:=h
theorem Zv5 {G:Prop}(h:G:=by(first|exact Zpx|(apply Zav;rfl;rfl;exact b2))):G:=h
theorem Zpw {G:Prop}(h:G:=by(apply Zau;rfl;rfl;exact s1)):G:=h
theorem Zpv {G:Prop}(h:G:=by(first|exact Zpw|(apply Zav;rfl;rfl;exact s2))):G:=h
theorem Zu0 {G:Prop}(h:G:=by exact QyA):G:=h
theorem Zpk {G:Prop}(h:G:=by repeat (first|exact QF.nil|(apply QF.mk;rfl;rfl;decide +kernel;exact Zu0))):G:=h
theorem Zv4 {G:Prop}(h:G:=by(apply Zap;rfl;rfl;exact r0)):G:=h
theorem ZuZ {G:Prop}(h:G:=by exact QyA):G:=h
theorem Zpj {G:Prop}(h:G:=by repeat (first|exact QF.nil|(apply QF.mk;rfl;rfl;decide +kernel;exact ZuZ))):G:=h
set_option maxHeartbeats 0 in
theorem Ztz (Ar Az Al As:Option Addr)(Q T N cs:Nat)(a:DSource)(e:DEra)(first:Bool)(w:World)(hL:LibW w)(hA:Zam w Ar Az Al As Q T N cs a)(hS:ZcH a)(hV:Zg4 a)(u:Zjm e) :
  Does prog 182 [srcV Ar Az Al As Q T N cs a,.agg e.enc.toArray,.bool first] w (fun v O=>v = .int .i64 (Zdq a.rules e first)/\O=[]):=by
 have hn:=hS.nr
 have g:=fun w' (b:Bel w.heap.size w w')=>Zgf Ar Az Al As Q T N cs a e w' (hA.up b) hn
 have t:=fun w'=>Zj2 e.off 0 u.off ⟨by decide,by decide⟩ w'
 have p:=fun w' (b:Bel w.heap.size w w')=>ZhV Ar Az Al As Q T N cs a e w' (hA.up b) hn
 have q:=fun w'=>ZnX e w'
 have J:∀ r∈ZaA a.rules e,r∈a.rules:=fun r h=>ZdD h
 have ab:=Zez a.rules e
 have y:=ZfC (fun r h=>hV.i64 r h) u.save
 have m:=fun A3 j w' (b:Bel w.heap.size w w') h=>ZoN e A3 j (ZaA a.rules e) w' (hL.up b) h u.off u.save (fun r Z=>hV.i64 r (J r Z)) (by omega) u.fmt (fun r Z=>(hS.rs r (J r Z)).2)
 unfold Zdq
 rw[show(fun x:Int × ByteArray => !Za1 e.off x.1)=offB e.off from rfl]
 generalize ZaA a.rules e=R at *
 generalize ZaB a.rules e=S at *
 generalize Zdt e=un at *
 generalize Zem e R=fc at *
 obtain⟨off,kind,save,set,U,til⟩:=e
 have ho:=u.off
 have Y:=u.kind
 have f:=fun A5 d (H:Nat) (cells:List Value) w' (h:RdSl w' A5 d Za6 2 S) (X:Zat w' ⟨H,0,none⟩ (.int .i64 off::cells))=>ZiX A5 d S 234 [] [.pointer (some ⟨H,0,none⟩)] (offB off) w' h (fun x hx w2 aa=>by
  have L:w'.cell? ⟨H,0,none⟩=some (.int .i64 off):=by
   have:=X 0 _ rfl
   rwa[Zcl]at this
  exact Zt5 x ⟨H,0,none⟩ off w2 ((aa.cell (World.block_lt_of_cell? w' _ L)).trans L) ho (y x hx))
 replace f:=fun A5 d w' h {H cells} X=>f A5 d H cells w' h X
 dsimp only at g t p q m ho Y ⊢
 simp only[DEra.enc]at g p q m ⊢
 obtain⟨I,K⟩:∃ I,S.any (offB off)=I:=⟨_,rfl⟩
 rw[K]at f ⊢
 generalize Za1 off 0=h0 at *
 clear y K u
 refine Zaa func182 rfl rfl rfl rfl ?_
 by_cases z:kind<0
 ·have b1:decide (kind<0)=true:=dT_ z
  rw[if_pos (.inl z)]
  repeat (first|(apply RL_pu;rfl;exact Zpx)|refine walk1 ?_|(refine jn ?_;(try intro F);(first|(refine bx ?_;intro s)|(apply Zan;first|exact Zpx|exact PuA));first|refine⟨_,EndsA,QFAccG0,?_⟩|refine fin ?_))
  exact rtA
 by_cases M:2<kind
 ·have b1:decide (kind<0)=false:=dF_ z
  have b2:decide (2<kind)=true:=dT_ M
  rw[if_pos (.inr M)]
  repeat (first|(apply RL_pu;rfl;exact Zv5)|refine walk1 ?_|(refine jn ?_;(try intro F);(first|(refine bx ?_;intro s)|(apply Zan;first|exact Zv5|exact PuA));first|refine⟨_,EndsA,QFAccG1,?_⟩|refine fin ?_))
  exact rtA
 rw[if_neg (by omega)]
 obtain rfl|rfl|rfl:kind=0\/kind=1\/kind=2:=by omega
 ·cases first
  all_goals
   rw[if_neg (by rintro⟨h1,h2⟩;first|(cases h1;done)|(cases h2;done)),if_neg (by rintro⟨h,_⟩;cases h),if_neg (by rintro⟨h,_⟩;cases h)]
  all_goals
   cases h0 <;> first|rw[if_pos (Or.inl rfl)]|(cases I <;> first|rw[if_pos (Or.inr rfl)]|(rw[if_neg (by rintro(h|h) <;> cases h)];cases un <;> first|rw[if_pos rfl]|rw[if_neg (by decide)]))
  all_goals
   repeat (first|refine und ?_|refine walk ?_|(refine jg ?_;(try intro F);(first|(apply Zad (h:=fun w' b _=>g w' b);rfl;rintro v O' ⟨A3,j,rfl,rfl⟩)|(refine Zab (fun w' b=>t w') ?_)|(apply Zad (h:=fun w' b _=>p w' b);rfl;rintro v O' ⟨A5,d,rfl,rfl⟩)|(refine ZaH (fun w' b c=>f A5 d w' (ZaJ Za6.len (c.of (A := .row (.slice A5 S.length d) 155 2 S.length (S.flatMap Za6)) cS_)) (c.cells cS_)) ?_)|(refine Zab (fun w' b=>q w') ?_)|(refine ZaH (fun w' b c=>m A3 j w' b (ZaJ DRule.len (c.of (A := .row (.slice A3 R.length j) 68 11 R.length (R.flatMap DRule.enc)) cS_))) ?_)|(refine bx ?_;intro s));refine fin ?_)|(refine jn ?_;(try intro F);((apply Zan;exact PuA));refine fin ?_))
   exact rtA
 ·rw[if_neg (by rintro⟨_,h⟩;cases h),if_neg (by rintro⟨h,_⟩;cases h)]
  by_cases D:save<1
  ·have s1:decide (save<1)=true:=dT_ D
   rw[if_pos ⟨rfl,.inl D⟩]
   cases first
   all_goals
    repeat (first|(apply RL_pu;rfl;exact Zpw)|refine walk1 ?_|(refine jn ?_;(try intro F);(first|(refine bx ?_;intro s)|(apply Zan;first|exact Zpw|exact PuA));first|refine⟨_,EndsA,QFAccG2,?_⟩|refine fin ?_))
    exact rtA
  have s1:decide (save<1)=false:=dF_ D
  by_cases E:10800<save
  ·have s2:decide (10800<save)=true:=dT_ E
   rw[if_pos ⟨rfl,.inr E⟩]
   cases first
   all_goals
    repeat (first|(apply RL_pu;rfl;exact Zpv)|refine walk1 ?_|(refine jn ?_;(try intro F);(first|(refine bx ?_;intro s)|(apply Zan;first|exact Zpv|exact PuA));first|refine⟨_,EndsA,Zpk,?_⟩|refine fin ?_))
    exact rtA
  have s2:decide (10800<save)=false:=dF_ E
  rw[if_neg (by omega)]
  cases first
  all_goals
   cases h0 <;> first|rw[if_pos (Or.inl rfl)]|(cases I <;> first|rw[if_pos (Or.inr rfl)]|(rw[if_neg (by rintro(h|h) <;> cases h)];cases un <;> first|rw[if_pos rfl]|rw[if_neg (by decide)]))
  all_goals
   repeat (first|refine und ?_|(apply RL_pu;rfl;exact Zpv)|(apply RD_Q;rfl;rfl;decide +kernel;rfl;rfl;exact Zu0)|refine walk1 ?_|(refine jg ?_;(try intro F);(first|(apply Zad (h:=fun w' b _=>g w' b);rfl;rintro v O' ⟨A3,j,rfl,rfl⟩)|(refine Zab (fun w' b=>t w') ?_)|(apply Zad (h:=fun w' b _=>p w' b);rfl;rintro v O' ⟨A5,d,rfl,rfl⟩)|(refine ZaH (fun w' b c=>f A5 d w' (ZaJ Za6.len (c.of (A := .row (.slice A5 S.length d) 155 2 S.length (S.flatMap Za6)) cS_)) (c.cells cS_)) ?_)|(refine Zab (fun w' b=>q w') ?_)|(refine ZaH (fun w' b c=>m A3 j w' b (ZaJ DRule.len (c.of (A := .row (.slice A3 R.length j) 68 11 R.length (R.flatMap DRule.enc)) cS_))) ?_)|(refine bx ?_;intro s));first|refine⟨_,EndsA,Zpk,?_⟩|refine fin ?_)|(refine jn ?_;(try intro F);(first|(refine bx ?_;intro s)|(apply Zan;exact PuA));first|refine⟨_,EndsA,Zpk,?_⟩|refine fin ?_))
   exact rtA
 ·cases first with
  | true =>
   rw[if_pos ⟨rfl,rfl⟩]
   repeat (first|refine walk ?_|(refine jn ?_;(try intro F);((refine bx ?_;intro s));refine fin ?_))
   exact rtA
  | false =>
   rw[if_neg (by rintro⟨h,_⟩;cases h)]
   by_cases W:R=[]
   ·have r0:decide ((R.length:Int)=0)=true:=by rw[W];rfl
    rw[if_pos ⟨rfl,W⟩]
    repeat (first|(apply RL_pu;rfl;exact Zv4)|refine walk1 ?_|(refine jg ?_;(try intro F);(first|(apply Zad (h:=fun w' b _=>g w' b);rfl;rintro v O' ⟨A3,j,rfl,rfl⟩)|(refine bx ?_;intro s));first|refine⟨_,EndsA,Zpj,?_⟩|refine fin ?_))
    exact rtA
   have r0:decide ((R.length:Int)=0)=false:=dF_ (fun h=>W (List.eq_nil_of_length_eq_zero (by omega)))
   rw[if_neg (fun h=>W h.2),if_neg (by rintro⟨h,_⟩;cases h)]
   cases h0 <;> first|rw[if_pos (Or.inl rfl)]|(cases I <;> first|rw[if_pos (Or.inr rfl)]|(rw[if_neg (by rintro(h|h) <;> cases h)];cases un <;> first|rw[if_pos rfl]|rw[if_neg (by decide)]))
   all_goals
    repeat (first|refine und ?_|(apply RL_pu;rfl;exact Zv4)|(apply RD_Q;rfl;rfl;decide +kernel;rfl;rfl;exact ZuZ)|refine walk1 ?_|(refine jg ?_;(try intro F);(first|(apply Zad (h:=fun w' b _=>g w' b);rfl;rintro v O' ⟨A3,j,rfl,rfl⟩)|(refine Zab (fun w' b=>t w') ?_)|(apply Zad (h:=fun w' b _=>p w' b);rfl;rintro v O' ⟨A5,d,rfl,rfl⟩)|(refine ZaH (fun w' b c=>f A5 d w' (ZaJ Za6.len (c.of (A := .row (.slice A5 S.length d) 155 2 S.length (S.flatMap Za6)) cS_)) (c.cells cS_)) ?_)|(refine Zab (fun w' b=>q w') ?_)|(refine ZaH (fun w' b c=>m A3 j w' b (ZaJ DRule.len (c.of (A := .row (.slice A3 R.length j) 68 11 R.length (R.flatMap DRule.enc)) cS_))) ?_)|(refine bx ?_;intro s));first|refine⟨_,EndsA,Zpj,?_⟩|refine fin ?_)|(refine jn ?_;(try intro F);(first|(refine bx ?_;intro s)|(apply Zan;exact PuA));first|refine⟨_,EndsA,Zpj,?_⟩|refine fin ?_))
    exact rtA
