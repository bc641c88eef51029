/- Parts of the proof. -/
import Derived.Test.YtpipekfmecikmaaGreatDoorW32
set_option maxHeartbeats 4000000
set_option linter.unusedVariables false
set_option linter.unusedSimpArgs false
namespace Go.Proofs.YtpipekfmecikmaaGreatDoor
open Go Go.RowKit Go.Wk
attribute [local irreducible] W RL Does Zat Zaj retQ Calls Pu Stp RD Qy Ay Zak
theorem Zy8 {G:Prop}(h:G:=by(apply Zca;rfl;rfl;exact hq)):G:=h
theorem ZpI {G G':Prop}(k:G')(h:Hold G'->G:=by intro k9;(first|refine und ?_|(apply RL_pu;rfl;exact Zy8)|(refine js ?_;(first|(refine Zab (fun w' _=>hsl w') ?_)|(refine Zab (fun w' _=>a0 w') ?_)|(refine Zab (fun w' _=>a1 w') ?_)|(refine Zab (fun w' _=>a2 w') ?_)|(refine Zab (fun w' _=>i0 w') ?_)|(refine Zab (fun w' _=>i1 w') ?_)|(refine Zab (fun w' _=>i2 w') ?_)))|refine walk1 ?_);exact k9.out):G:=h ⟨k⟩
set_option maxHeartbeats 2000000 in
theorem Zgl (f:ByteArray)(u:f.size<=1000000000)(w:World):Does Tryz.prog 134 [.string f] w (fun v O=>v = .int .i64 (ZaQ f.data.toList)/\O=[]):=by
 have hsl:=fun w'=>ZhV f (by omega) w'
 have c:=fun w'=>Zh0 f (by omega) w'
 unfold LetR at c
 have q:=Zre f.data.toList
 have p:f.data.toList.length=f.size:=rfl
 rw[p]at q
 rw[ZtD]
 have hq:decide (f=(⟨#[37,122]⟩:ByteArray))=decide (f.data.toList=[37,122]):=by
  rw[decide_eq_decide]
  exact⟨fun h=>by rw[h],fun h=>((Zb3 _ f).2 h.symm).symm⟩
 obtain⟨j,m⟩:∃ j,Zco f.data.toList=j:=⟨_,rfl⟩
 rw[m]at hsl q ⊢
 obtain⟨a,b,ok⟩:=j
 dsimp only at q ⊢
 simp only[slV]at hsl c
 have r:(⟨a.toArray⟩:ByteArray).size=a.length:=by show a.toArray.size=a.length;simp
 have s:(⟨b.toArray⟩:ByteArray).size=b.length:=by show b.toArray.size=b.length;simp
 have a0:=fun w'=>ZeP f (by omega) w'
 have a1:=fun w'=>ZeP ⟨a.toArray⟩ (by omega) w'
 have a2:=fun w'=>ZeP ⟨b.toArray⟩ (by omega) w'
 have i0:=fun w'=>Zfp f (by omega) w'
 have i1:=fun w'=>Zfp ⟨a.toArray⟩ (by omega) w'
 have i2:=fun w'=>Zfp ⟨b.toArray⟩ (by omega) w'
 rw[show Zhn f=Zbs f.data.toList from rfl]at a0
 rw[show Zhn ⟨a.toArray⟩=Zbs a from rfl]at a1
 rw[show Zhn ⟨b.toArray⟩=Zbs b from rfl]at a2
 rw[show(⟨a.toArray⟩:ByteArray).data.toList=a from rfl]at i1
 rw[show(⟨b.toArray⟩:ByteArray).data.toList=b from rfl]at i2
 generalize Zbs f.data.toList=A0 at *
 generalize Zbs a=A1 at *
 generalize Zbs b=A2 at *
 generalize (ZaT f.data.toList).isSome=I0 at *
 generalize (ZaT a).isSome=I1 at *
 generalize (ZaT b).isSome=I2 at *
 generalize (Zbl f.data.toList).isSome=ar at *
 generalize decide (f.data.toList=[37,122])=q4 at *
 refine Zaa Tryz.func134 rfl rfl rfl rfl ?_
 cases A0 with
 | true =>
  repeat (first|(refine js ?_;(first|(refine Zab (fun w' _=>hsl w') ?_)|(apply Zae (h:=fun w' _ _=>c w');rfl;rintro v O' ⟨⟨g,i,rfl,e⟩,rfl⟩)|(refine Zab (fun w' _=>a0 w') ?_)|(refine Zab (fun w' _=>a1 w') ?_)|(refine Zab (fun w' _=>a2 w') ?_)))|refine walk ?_)
  exact rtA
 | false =>
 obtain⟨K2,d⟩:∃ K2,(ok&&(A1&&A2))=K2:=⟨_,rfl⟩
 cases K2 with
 | true =>
  obtain⟨rfl,rfl,rfl⟩:ok=true/\A1=true/\A2=true:=by simpa using d
  repeat (first|refine und ?_|(refine js ?_;(first|(refine Zab (fun w' _=>hsl w') ?_)|(apply Zae (h:=fun w' _ _=>c w');rfl;rintro v O' ⟨⟨g,i,rfl,e⟩,rfl⟩)|(refine Zab (fun w' _=>a0 w') ?_)|(refine Zab (fun w' _=>a1 w') ?_)|(refine Zab (fun w' _=>a2 w') ?_)))|refine walk ?_)
  exact rtA
 | false =>
 have t:Zgw false ok A1 A2 ar q4 I0 I1 I2=if ar then 3 else if q4 then 4 else if I0||(ok&&(I1&&I2)) then 5 else 0:=by
  unfold Zgw
  rw[d]
  rfl
 rw[t]
 cases ar with
 | true =>
  cases ok <;> cases A1 <;> cases A2
  all_goals first|exact absurd d (by decide)|skip
  all_goals
   repeat (first|refine und ?_|(refine js ?_;(first|(refine Zab (fun w' _=>hsl w') ?_)|(apply Zae (h:=fun w' _ _=>c w');rfl;rintro v O' ⟨⟨g,i,rfl,e⟩,rfl⟩)|(refine Zab (fun w' _=>a0 w') ?_)|(refine Zab (fun w' _=>a1 w') ?_)|(refine Zab (fun w' _=>a2 w') ?_)))|refine walk ?_)
   exact rtA
 | false =>
 cases q4 with
 | true =>
  cases ok <;> cases A1 <;> cases A2
  all_goals first|exact absurd d (by decide)|skip
  all_goals
   repeat (first|refine und ?_|(apply RL_pu;rfl;exact Zy8)|(refine js ?_;(first|(refine Zab (fun w' _=>hsl w') ?_)|(apply Zae (h:=fun w' _ _=>c w');rfl;rintro v O' ⟨⟨g,i,rfl,e⟩,rfl⟩)|(refine Zab (fun w' _=>a0 w') ?_)|(refine Zab (fun w' _=>a1 w') ?_)|(refine Zab (fun w' _=>a2 w') ?_)))|refine walk1 ?_)
   exact rtA
 | false =>
 cases I0 with
 | true =>
  cases ok <;> cases A1 <;> cases A2
  all_goals first|exact absurd d (by decide)|skip
  all_goals
   repeat (first|refine ZpI ?_|(refine js ?_;(apply Zae (h:=fun w' _ _=>c w');rfl;rintro v O' ⟨⟨g,i,rfl,e⟩,rfl⟩)))
   exact rtA
 | false =>
 cases ok with
 | false =>
  repeat (first|refine ZpI ?_|(refine js ?_;(apply Zae (h:=fun w' _ _=>c w');rfl;rintro v O' ⟨⟨g,i,rfl,e⟩,rfl⟩)))
  exact rtA
 | true =>
 cases I1 with
 | false =>
  cases A1 <;> cases A2
  all_goals first|exact absurd d (by decide)|skip
  all_goals
   repeat (first|refine ZpI ?_|(refine js ?_;(apply Zae (h:=fun w' _ _=>c w');rfl;rintro v O' ⟨⟨g,i,rfl,e⟩,rfl⟩)))
   exact rtA
 | true =>
  cases I2 <;> cases A1 <;> cases A2
  all_goals first|exact absurd d (by decide)|skip
  all_goals
   repeat (first|refine ZpI ?_|(refine js ?_;(apply Zae (h:=fun w' _ _=>c w');rfl;rintro v O' ⟨⟨g,i,rfl,e⟩,rfl⟩)))
   exact rtA
end Go.Proofs.YtpipekfmecikmaaGreatDoor
