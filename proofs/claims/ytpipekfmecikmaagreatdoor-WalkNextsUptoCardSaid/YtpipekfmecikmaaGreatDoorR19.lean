/- Parts of the proof. -/
import Derived.Test.YtpipekfmecikmaaGreatDoorR18
set_option maxHeartbeats 4000000
set_option linter.all false
namespace Go.Proofs.YtpipekfmecikmaaGreatDoor
open Go Go.RowKit Go.Wk
attribute [local irreducible] W RL Does Zaq Zai retQ Calls Pu Stp RD Qy Ay Zaj
theorem ZgS.i64 {s:DSource}(h:ZgS s):∀ r∈s.rules,I64 r.save:=fun r a=>by have:=(h r a).1;unfold I64;omega
theorem Zdx {rs:List DRule}{e:DEra}{r:DRule}(h:r∈ZaA rs e):r∈rs:=by
 unfold ZaA at h
 split at h
 ·exact Zoj h
 ·cases h
theorem Zes (rs:List DRule)(e:DEra):(ZaA rs e).length<=rs.length:=by
 unfold ZaA
 split
 ·exact Zh6 _ _
 ·exact Nat.zero_le _
theorem Zfs {rs:List DRule}{e:DEra}(b:∀ r∈rs,I64 r.save)(c:I64 e.save):∀ x∈ZaB rs e,I64 x.1:=by
 intro x a
 unfold ZaB at a
 split at a
 ·simp only[List.mem_singleton]at a;subst a;exact c
 ·split at a
  ·obtain⟨r,h,rfl⟩:=List.mem_map.1 a
   exact b r (Zdx h)
  ·simp only[List.mem_singleton]at a;subst a;exact⟨by decide,by decide⟩
def offB (off:Int)(x:Int × ByteArray):Bool := !Za0 off x.1
structure Zja (e:DEra):Prop where
 off:I64 e.off
 save:I64 e.save
 kind:I64 e.kind
 fmt:e.format.size<=1000000000
theorem Zpk {G:Prop}(h:G:=by(apply Zau;rfl;rfl;exact b1)):G:=h
theorem ZvB {G:Prop}(h:G:=by(first|exact Zpk|(apply Zat;rfl;rfl;exact b2))):G:=h
theorem Zpj {G:Prop}(h:G:=by(apply Zau;rfl;rfl;exact s1)):G:=h
theorem Zpi {G:Prop}(h:G:=by(first|exact Zpj|(apply Zat;rfl;rfl;exact s2))):G:=h
theorem ZuB {G:Prop}(h:G:=by exact QyA):G:=h
theorem Zo7 {G:Prop}(h:G:=by repeat (first|exact QF.nil|(apply QF.mk;rfl;rfl;decide +kernel;exact ZuB))):G:=h
theorem ZvA {G:Prop}(h:G:=by(apply Zao;rfl;rfl;exact r0)):G:=h
theorem ZuA {G:Prop}(h:G:=by exact QyA):G:=h
theorem Zo6 {G:Prop}(h:G:=by repeat (first|exact QF.nil|(apply QF.mk;rfl;rfl;decide +kernel;exact ZuA))):G:=h
set_option maxHeartbeats 4000000 in
theorem Ztc (Ar Az Al As:Option Addr)(Q T N cs:Nat)(a:DSource)(e:DEra)(first:Bool)(w:World)(hL:LibW w)(hA:Zak w Ar Az Al As Q T N cs a)(hS:ZcA a)(hV:ZgS a)(u:Zja e) :
  Does Tryz.prog 182 [srcV Ar Az Al As Q T N cs a,.agg e.enc.toArray,.bool first] w (fun v O=>v = .int .i64 (Zdi a.rules e first)/\O=[]):=by
 have hn:=hS.nr
 have g:=fun w' (b:Bel w.heap.size w w')=>Zf0 Ar Az Al As Q T N cs a e w' (hA.up b) hn
 have t:=fun w'=>ZjR e.off 0 u.off ⟨by decide,by decide⟩ w'
 have p:=fun w' (b:Bel w.heap.size w w')=>ZhJ Ar Az Al As Q T N cs a e w' (hA.up b) hn
 have q:=fun w'=>ZnL e w'
 have J:∀ r∈ZaA a.rules e,r∈a.rules:=fun r h=>Zdx h
 have ab:=Zes a.rules e
 have y:=Zfs (fun r h=>hV.i64 r h) u.save
 have m:=fun A3 j w' (b:Bel w.heap.size w w') h=>ZoB e A3 j (ZaA a.rules e) w' (hL.up b) h u.off u.save (fun r Z=>hV.i64 r (J r Z)) (by omega) u.fmt (fun r Z=>(hS.rs r (J r Z)).2)
 unfold Zdi
 rw[show(fun x:Int × ByteArray => !Za0 e.off x.1)=offB e.off from rfl]
 generalize ZaA a.rules e=R at *
 generalize ZaB a.rules e=S at *
 generalize Zdl e=un at *
 generalize Zeg e R=fc at *
 obtain⟨off,kind,save,set,U,til⟩:=e
 have ho:=u.off
 have Y:=u.kind
 have f:=fun A5 d (H:Nat) (cells:List Value) w' (h:RdSl w' A5 d Za4 2 S) (X:Zas w' ⟨H,0,none⟩ (.int .i64 off::cells))=>ZiL A5 d S 234 [] [.pointer (some ⟨H,0,none⟩)] (offB off) w' h (fun x hx w2 aa=>by
  have L:w'.cell? ⟨H,0,none⟩=some (.int .i64 off):=by
   have:=X 0 _ rfl
   rwa[Zce]at this
  exact ZtH x ⟨H,0,none⟩ off w2 ((aa.cell (World.block_lt_of_cell? w' _ L)).trans L) ho (y x hx))
 replace f:=fun A5 d w' h {H cells} X=>f A5 d H cells w' h X
 dsimp only at g t p q m ho Y ⊢
 simp only[DEra.enc]at g p q m ⊢
 obtain⟨I,K⟩:∃ I,S.any (offB off)=I:=⟨_,rfl⟩
 rw[K]at f ⊢
 generalize Za0 off 0=h0 at *
 clear y K u
 refine Zaa Tryz.func182 rfl rfl rfl rfl ?_
 by_cases z:kind<0
 ·have b1:decide (kind<0)=true:=decide_eq_true z
  rw[if_pos (.inl z)]
  repeat (first|(apply RL_pu;rfl;exact Zpk)|refine walk1 ?_|(refine jn ?_;(try intro F);(first|(refine bx ?_;intro s)|(apply Zam;first|exact Zpk|exact PuA));first|refine⟨_,EndsA,QFAccG0,?_⟩|refine fin ?_))
  exact rtA
 by_cases M:2<kind
 ·have b1:decide (kind<0)=false:=decide_eq_false z
  have b2:decide (2<kind)=true:=decide_eq_true M
  rw[if_pos (.inr M)]
  repeat (first|(apply RL_pu;rfl;exact ZvB)|refine walk1 ?_|(refine jn ?_;(try intro F);(first|(refine bx ?_;intro s)|(apply Zam;first|exact ZvB|exact PuA));first|refine⟨_,EndsA,QFAccG1,?_⟩|refine fin ?_))
  exact rtA
 rw[if_neg (by omega)]
 obtain rfl|rfl|rfl:kind=0\/kind=1\/kind=2:=by omega
 ·cases first
  all_goals
   rw[if_neg (by rintro⟨h1,h2⟩;first|(cases h1;done)|(cases h2;done)),if_neg (by rintro⟨h,_⟩;cases h),if_neg (by rintro⟨h,_⟩;cases h)]
  all_goals
   cases h0 <;> first|rw[if_pos (Or.inl rfl)]|(cases I <;> first|rw[if_pos (Or.inr rfl)]|(rw[if_neg (by rintro(h|h) <;> cases h)];cases un <;> first|rw[if_pos rfl]|rw[if_neg (by decide)]))
  all_goals
   repeat (first|refine und ?_|refine walk ?_|(refine jg ?_;(try intro F);(first|(apply Zad (h:=fun w' b _=>g w' b);rfl;rintro v O' ⟨A3,j,rfl,rfl⟩)|(refine Zac (fun w' b=>t w') ?_)|(apply Zad (h:=fun w' b _=>p w' b);rfl;rintro v O' ⟨A5,d,rfl,rfl⟩)|(refine ZaJ (fun w' b c=>f A5 d w' (ZaO Za4.len (c.of (A := .row (.slice A5 S.length d) 155 2 S.length (S.flatMap Za4)) (by repeat' constructor))) (c.cells (by repeat' constructor))) ?_)|(refine Zac (fun w' b=>q w') ?_)|(refine ZaJ (fun w' b c=>m A3 j w' b (ZaO DRule.len (c.of (A := .row (.slice A3 R.length j) 68 11 R.length (R.flatMap DRule.enc)) (by repeat' constructor)))) ?_)|(refine bx ?_;intro s));refine fin ?_)|(refine jn ?_;(try intro F);((apply Zam;exact PuA));refine fin ?_))
   exact rtA
 ·rw[if_neg (by rintro⟨_,h⟩;cases h),if_neg (by rintro⟨h,_⟩;cases h)]
  by_cases D:save<1
  ·have s1:decide (save<1)=true:=decide_eq_true D
   rw[if_pos ⟨rfl,.inl D⟩]
   cases first
   all_goals
    repeat (first|(apply RL_pu;rfl;exact Zpj)|refine walk1 ?_|(refine jn ?_;(try intro F);(first|(refine bx ?_;intro s)|(apply Zam;first|exact Zpj|exact PuA));first|refine⟨_,EndsA,QFAccG2,?_⟩|refine fin ?_))
    exact rtA
  have s1:decide (save<1)=false:=decide_eq_false D
  by_cases E:10800<save
  ·have s2:decide (10800<save)=true:=decide_eq_true E
   rw[if_pos ⟨rfl,.inr E⟩]
   cases first
   all_goals
    repeat (first|(apply RL_pu;rfl;exact Zpi)|refine walk1 ?_|(refine jn ?_;(try intro F);(first|(refine bx ?_;intro s)|(apply Zam;first|exact Zpi|exact PuA));first|refine⟨_,EndsA,Zo7,?_⟩|refine fin ?_))
    exact rtA
  have s2:decide (10800<save)=false:=decide_eq_false E
  rw[if_neg (by omega)]
  cases first
  all_goals
   cases h0 <;> first|rw[if_pos (Or.inl rfl)]|(cases I <;> first|rw[if_pos (Or.inr rfl)]|(rw[if_neg (by rintro(h|h) <;> cases h)];cases un <;> first|rw[if_pos rfl]|rw[if_neg (by decide)]))
  all_goals
   repeat (first|refine und ?_|(apply RL_pu;rfl;exact Zpi)|(apply RD_Q;rfl;rfl;decide +kernel;rfl;rfl;exact ZuB)|refine walk1 ?_|(refine jg ?_;(try intro F);(first|(apply Zad (h:=fun w' b _=>g w' b);rfl;rintro v O' ⟨A3,j,rfl,rfl⟩)|(refine Zac (fun w' b=>t w') ?_)|(apply Zad (h:=fun w' b _=>p w' b);rfl;rintro v O' ⟨A5,d,rfl,rfl⟩)|(refine ZaJ (fun w' b c=>f A5 d w' (ZaO Za4.len (c.of (A := .row (.slice A5 S.length d) 155 2 S.length (S.flatMap Za4)) (by repeat' constructor))) (c.cells (by repeat' constructor))) ?_)|(refine Zac (fun w' b=>q w') ?_)|(refine ZaJ (fun w' b c=>m A3 j w' b (ZaO DRule.len (c.of (A := .row (.slice A3 R.length j) 68 11 R.length (R.flatMap DRule.enc)) (by repeat' constructor)))) ?_)|(refine bx ?_;intro s));first|refine⟨_,EndsA,Zo7,?_⟩|refine fin ?_)|(refine jn ?_;(try intro F);(first|(refine bx ?_;intro s)|(apply Zam;exact PuA));first|refine⟨_,EndsA,Zo7,?_⟩|refine fin ?_))
   exact rtA
 ·cases first with
  | true =>
   rw[if_pos ⟨rfl,rfl⟩]
   repeat (first|refine walk ?_|(refine jn ?_;(try intro F);((refine bx ?_;intro s));refine fin ?_))
   exact rtA
  | false =>
   rw[if_neg (by rintro⟨h,_⟩;cases h)]
   by_cases W:R=[]
   ·have r0:decide ((R.length:Int)=0)=true:=by rw[W];rfl
    rw[if_pos ⟨rfl,W⟩]
    repeat (first|(apply RL_pu;rfl;exact ZvA)|refine walk1 ?_|(refine jg ?_;(try intro F);(first|(apply Zad (h:=fun w' b _=>g w' b);rfl;rintro v O' ⟨A3,j,rfl,rfl⟩)|(refine bx ?_;intro s));first|refine⟨_,EndsA,Zo6,?_⟩|refine fin ?_))
    exact rtA
   have r0:decide ((R.length:Int)=0)=false:=decide_eq_false (fun h=>W (List.eq_nil_of_length_eq_zero (by omega)))
   rw[if_neg (fun h=>W h.2),if_neg (by rintro⟨h,_⟩;cases h)]
   cases h0 <;> first|rw[if_pos (Or.inl rfl)]|(cases I <;> first|rw[if_pos (Or.inr rfl)]|(rw[if_neg (by rintro(h|h) <;> cases h)];cases un <;> first|rw[if_pos rfl]|rw[if_neg (by decide)]))
   all_goals
    repeat (first|refine und ?_|(apply RL_pu;rfl;exact ZvA)|(apply RD_Q;rfl;rfl;decide +kernel;rfl;rfl;exact ZuA)|refine walk1 ?_|(refine jg ?_;(try intro F);(first|(apply Zad (h:=fun w' b _=>g w' b);rfl;rintro v O' ⟨A3,j,rfl,rfl⟩)|(refine Zac (fun w' b=>t w') ?_)|(apply Zad (h:=fun w' b _=>p w' b);rfl;rintro v O' ⟨A5,d,rfl,rfl⟩)|(refine ZaJ (fun w' b c=>f A5 d w' (ZaO Za4.len (c.of (A := .row (.slice A5 S.length d) 155 2 S.length (S.flatMap Za4)) (by repeat' constructor))) (c.cells (by repeat' constructor))) ?_)|(refine Zac (fun w' b=>q w') ?_)|(refine ZaJ (fun w' b c=>m A3 j w' b (ZaO DRule.len (c.of (A := .row (.slice A3 R.length j) 68 11 R.length (R.flatMap DRule.enc)) (by repeat' constructor)))) ?_)|(refine bx ?_;intro s));first|refine⟨_,EndsA,Zo6,?_⟩|refine fin ?_)|(refine jn ?_;(try intro F);(first|(refine bx ?_;intro s)|(apply Zam;exact PuA));first|refine⟨_,EndsA,Zo6,?_⟩|refine fin ?_))
    exact rtA
end Go.Proofs.YtpipekfmecikmaaGreatDoor
