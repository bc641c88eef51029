/- Parts of the proof. -/
import Derived.Test.YtpipekfmecikmaaGreatDoorA29
set_option maxHeartbeats 0
set_option linter.all false
namespace Go.Proofs.YtpipekfmecikmaaGreatDoor
open Go Go.RowKit Go.Wk Tryz
attribute [local irreducible] W RL Does Zaq Zai retQ Calls Pu Stp RD Qy Ay Zaj
theorem ZzG {G:Prop}(h:G:=by(apply Zci;rfl;rfl;exact hq)):G:=h
theorem ZpL {G G':Prop}(k:G')(h:Hold G'->G:=by intro k9;(first|refine und ?_|(apply RL_pu;rfl;exact ZzG)|(refine js ?_;(first|(refine Zab (fun w' _=>hsl w') ?_)|(refine Zab (fun w' _=>a0 w') ?_)|(refine Zab (fun w' _=>a1 w') ?_)|(refine Zab (fun w' _=>a2 w') ?_)|(refine Zab (fun w' _=>i0 w') ?_)|(refine Zab (fun w' _=>i1 w') ?_)|(refine Zab (fun w' _=>i2 w') ?_)))|refine walk1 ?_);exact k9.out):G:=h ⟨k⟩
set_option maxHeartbeats 0 in
theorem ZgJ (f:ByteArray)(u:f.size<=1000000000)(w:World):Does prog 134 [.string f] w (fun v O=>v = .int .i64 (ZaP f.data.toList)/\O=[]):=by
 have hsl:=fun w'=>Zh1 f (by omega) w'
 have c:=fun w'=>Zh6 f (by omega) w'
 unfold LetR at c
 have q:=Zra f.data.toList
 have p:f.data.toList.length=f.size:=rfl
 rw[p]at q
 rw[ZtH]
 have hq:decide (f=(⟨#[37,122]⟩:ByteArray))=decide (f.data.toList=[37,122]):=by
  rw[decide_eq_decide]
  exact⟨fun h=>by rw[h],fun h=>((Zce _ f).2 h.symm).symm⟩
 obtain⟨j,m⟩:∃ j,Zcx f.data.toList=j:=⟨_,rfl⟩
 rw[m]at hsl q ⊢
 obtain⟨a,b,ok⟩:=j
 dsimp only at q ⊢
 simp only[slV]at hsl c
 have r:(⟨a.toArray⟩:ByteArray).size=a.length:=by show a.toArray.size=a.length;simp
 have s:(⟨b.toArray⟩:ByteArray).size=b.length:=by show b.toArray.size=b.length;simp
 have a0:=fun w'=>Ze9 f (by omega) w'
 have a1:=fun w'=>Ze9 ⟨a.toArray⟩ (by omega) w'
 have a2:=fun w'=>Ze9 ⟨b.toArray⟩ (by omega) w'
 have i0:=fun w'=>ZfG f (by omega) w'
 have i1:=fun w'=>ZfG ⟨a.toArray⟩ (by omega) w'
 have i2:=fun w'=>ZfG ⟨b.toArray⟩ (by omega) w'
 rw[show ZhB f=ZbD f.data.toList from rfl]at a0
 rw[show ZhB ⟨a.toArray⟩=ZbD a from rfl]at a1
 rw[show ZhB ⟨b.toArray⟩=ZbD b from rfl]at a2
 rw[show(⟨a.toArray⟩:ByteArray).data.toList=a from rfl]at i1
 rw[show(⟨b.toArray⟩:ByteArray).data.toList=b from rfl]at i2
 generalize ZbD f.data.toList=A0 at *
 generalize ZbD a=A1 at *
 generalize ZbD b=A2 at *
 generalize (ZaV f.data.toList).isSome=I0 at *
 generalize (ZaV a).isSome=I1 at *
 generalize (ZaV b).isSome=I2 at *
 generalize (Zbq f.data.toList).isSome=ar at *
 generalize decide (f.data.toList=[37,122])=q4 at *
 refine Zaa func134 rfl rfl rfl rfl ?_
 cases A0 with
 | true =>
  repeat (first|(refine js ?_;(first|(refine Zab (fun w' _=>hsl w') ?_)|(apply Zad (h:=fun w' _ _=>c w');rfl;rintro v O' ⟨⟨g,i,rfl,e⟩,rfl⟩)|(refine Zab (fun w' _=>a0 w') ?_)))|refine walk ?_)
  exact rtA
 | false =>
 obtain⟨K2,d⟩:∃ K2,(ok&&(A1&&A2))=K2:=⟨_,rfl⟩
 cases K2 with
 | true =>
  obtain⟨rfl,rfl,rfl⟩:ok=true/\A1=true/\A2=true:=by simpa using d
  repeat (first|(refine js ?_;(first|(refine Zab (fun w' _=>hsl w') ?_)|(apply Zad (h:=fun w' _ _=>c w');rfl;rintro v O' ⟨⟨g,i,rfl,e⟩,rfl⟩)|(refine Zab (fun w' _=>a0 w') ?_)|(refine Zab (fun w' _=>a1 w') ?_)|(refine Zab (fun w' _=>a2 w') ?_)))|refine walk ?_)
  exact rtA
 | false =>
 have t:Zk5 false ok A1 A2 ar q4 I0 I1 I2=if ar then 3 else if q4 then 4 else if I0||(ok&&(I1&&I2)) then 5 else 0:=by
  unfold Zk5
  rw[d]
  rfl
 rw[t]
 cases ar with
 | true =>
  cases ok <;> cases A1 <;> cases A2
  all_goals first|exact absurd d (by decide)|skip
  all_goals
   repeat (first|(refine js ?_;(first|(refine Zab (fun w' _=>hsl w') ?_)|(apply Zad (h:=fun w' _ _=>c w');rfl;rintro v O' ⟨⟨g,i,rfl,e⟩,rfl⟩)|(refine Zab (fun w' _=>a0 w') ?_)|(refine Zab (fun w' _=>a1 w') ?_)|(refine Zab (fun w' _=>a2 w') ?_)))|refine walk ?_)
   exact rtA
 | false =>
 cases q4 with
 | true =>
  cases ok <;> cases A1 <;> cases A2
  all_goals first|exact absurd d (by decide)|skip
  all_goals
   repeat (first|(apply RL_pu;rfl;exact ZzG)|(refine js ?_;(first|(refine Zab (fun w' _=>hsl w') ?_)|(apply Zad (h:=fun w' _ _=>c w');rfl;rintro v O' ⟨⟨g,i,rfl,e⟩,rfl⟩)|(refine Zab (fun w' _=>a0 w') ?_)|(refine Zab (fun w' _=>a1 w') ?_)|(refine Zab (fun w' _=>a2 w') ?_)))|refine walk1 ?_)
   exact rtA
 | false =>
 cases I0 with
 | true =>
  cases ok <;> cases A1 <;> cases A2
  all_goals first|exact absurd d (by decide)|skip
  all_goals
   repeat (first|refine ZpL ?_|(refine js ?_;(apply Zad (h:=fun w' _ _=>c w');rfl;rintro v O' ⟨⟨g,i,rfl,e⟩,rfl⟩)))
   exact rtA
 | false =>
 cases ok with
 | false =>
  repeat (first|refine ZpL ?_|(refine js ?_;(apply Zad (h:=fun w' _ _=>c w');rfl;rintro v O' ⟨⟨g,i,rfl,e⟩,rfl⟩)))
  exact rtA
 | true =>
 cases I1 with
 | false =>
  cases A1 <;> cases A2
  all_goals first|exact absurd d (by decide)|skip
  all_goals
   repeat (first|refine ZpL ?_|(refine js ?_;(apply Zad (h:=fun w' _ _=>c w');rfl;rintro v O' ⟨⟨g,i,rfl,e⟩,rfl⟩)))
   exact rtA
 | true =>
  cases I2 <;> cases A1 <;> cases A2
  all_goals first|exact absurd d (by decide)|skip
  all_goals
   repeat (first|refine ZpL ?_|(refine js ?_;(apply Zad (h:=fun w' _ _=>c w');rfl;rintro v O' ⟨⟨g,i,rfl,e⟩,rfl⟩)))
   exact rtA
