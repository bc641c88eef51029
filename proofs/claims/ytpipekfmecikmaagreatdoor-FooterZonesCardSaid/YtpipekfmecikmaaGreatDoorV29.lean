/- Parts of the proof. -/
import Derived.Test.YtpipekfmecikmaaGreatDoorV28
set_option maxHeartbeats 4000000
set_option linter.unusedVariables false
set_option linter.unusedSimpArgs false
namespace Go.Proofs.YtpipekfmecikmaaGreatDoor
open Go Go.RowKit Go.Wk
attribute [local irreducible] W RL Does Zat Zaj retQ Calls Pu Stp RD Qy Ay Zak
theorem Zxu {G:Prop}(h:G:=by(apply ZbX;rfl;rfl;exact hq)):G:=h
theorem ZoG {G G':Prop}(k:G')(h:Hold G'->G:=by intro k9;(first|refine und ?_|(apply RL_pu;rfl;exact Zxu)|(refine js ?_;(first|(refine Zab (fun w' _=>hsl w') ?_)|(refine Zab (fun w' _=>a0 w') ?_)|(refine Zab (fun w' _=>a1 w') ?_)|(refine Zab (fun w' _=>a2 w') ?_)|(refine Zab (fun w' _=>i0 w') ?_)|(refine Zab (fun w' _=>i1 w') ?_)|(refine Zab (fun w' _=>i2 w') ?_)))|refine walk1 ?_);exact k9.out):G:=h ⟨k⟩
set_option maxHeartbeats 2000000 in
theorem Zf1 (f:ByteArray)(hs:f.size<=1000000000)(w:World):Does Tryz.prog 134 [.string f] w (fun v O=>v = .int .i64 (Za6 f.data.toList)/\O=[]):=by
 have hsl:=fun w'=>Zhx f (by omega) w'
 have hlt:=fun w'=>ZhC f (by omega) w'
 unfold LetR at hlt
 have hl:=Zp7 f.data.toList
 have hfs:f.data.toList.length=f.size:=rfl
 rw[hfs]at hl
 rw[Zsn]
 have hq:decide (f=(⟨#[37,122]⟩:ByteArray))=decide (f.data.toList=[37,122]):=by
  rw[decide_eq_decide]
  exact⟨fun h=>by rw[h],fun h=>((ZbT _ f).2 h.symm).symm⟩
 obtain⟨ab,hab⟩:∃ ab,Zcg f.data.toList=ab:=⟨_,rfl⟩
 rw[hab]at hsl hl ⊢
 obtain⟨a,b,ok⟩:=ab
 dsimp only at hl ⊢
 simp only[slV]at hsl hlt
 have hs1:(⟨a.toArray⟩:ByteArray).size=a.length:=by show a.toArray.size=a.length;simp
 have hs2:(⟨b.toArray⟩:ByteArray).size=b.length:=by show b.toArray.size=b.length;simp
 have a0:=fun w'=>ZeD f (by omega) w'
 have a1:=fun w'=>ZeD ⟨a.toArray⟩ (by omega) w'
 have a2:=fun w'=>ZeD ⟨b.toArray⟩ (by omega) w'
 have i0:=fun w'=>Zfd f (by omega) w'
 have i1:=fun w'=>Zfd ⟨a.toArray⟩ (by omega) w'
 have i2:=fun w'=>Zfd ⟨b.toArray⟩ (by omega) w'
 rw[show ZgU f=Zbq f.data.toList from rfl]at a0
 rw[show ZgU ⟨a.toArray⟩=Zbq a from rfl]at a1
 rw[show ZgU ⟨b.toArray⟩=Zbq b from rfl]at a2
 rw[show(⟨a.toArray⟩:ByteArray).data.toList=a from rfl]at i1
 rw[show(⟨b.toArray⟩:ByteArray).data.toList=b from rfl]at i2
 generalize Zbq f.data.toList=A0 at *
 generalize Zbq a=A1 at *
 generalize Zbq b=A2 at *
 generalize (ZaY f.data.toList).isSome=I0 at *
 generalize (ZaY a).isSome=I1 at *
 generalize (ZaY b).isSome=I2 at *
 generalize (Zbh f.data.toList).isSome=ar at *
 generalize decide (f.data.toList=[37,122])=q4 at *
 refine Zaa Tryz.func134 rfl rfl rfl rfl ?_
 cases A0 with
 | true =>
  repeat (first|(refine js ?_;(first|(refine Zab (fun w' _=>hsl w') ?_)|(apply Zae (h:=fun w' _ _=>hlt w');rfl;rintro v O' ⟨⟨lx,ly,rfl,hxy⟩,rfl⟩)|(refine Zab (fun w' _=>a0 w') ?_)|(refine Zab (fun w' _=>a1 w') ?_)|(refine Zab (fun w' _=>a2 w') ?_)))|refine walk ?_)
  exact rtA
 | false =>
 obtain⟨K2,hK2⟩:∃ K2,(ok&&(A1&&A2))=K2:=⟨_,rfl⟩
 cases K2 with
 | true =>
  obtain⟨rfl,rfl,rfl⟩:ok=true/\A1=true/\A2=true:=by simpa using hK2
  repeat (first|refine und ?_|(refine js ?_;(first|(refine Zab (fun w' _=>hsl w') ?_)|(apply Zae (h:=fun w' _ _=>hlt w');rfl;rintro v O' ⟨⟨lx,ly,rfl,hxy⟩,rfl⟩)|(refine Zab (fun w' _=>a0 w') ?_)|(refine Zab (fun w' _=>a1 w') ?_)|(refine Zab (fun w' _=>a2 w') ?_)))|refine walk ?_)
  exact rtA
 | false =>
 have hv:Zf7 false ok A1 A2 ar q4 I0 I1 I2=if ar then 3 else if q4 then 4 else if I0||(ok&&(I1&&I2)) then 5 else 0:=by
  unfold Zf7
  rw[hK2]
  rfl
 rw[hv]
 cases ar with
 | true =>
  cases ok <;> cases A1 <;> cases A2
  all_goals first|exact absurd hK2 (by decide)|skip
  all_goals
   repeat (first|refine und ?_|(refine js ?_;(first|(refine Zab (fun w' _=>hsl w') ?_)|(apply Zae (h:=fun w' _ _=>hlt w');rfl;rintro v O' ⟨⟨lx,ly,rfl,hxy⟩,rfl⟩)|(refine Zab (fun w' _=>a0 w') ?_)|(refine Zab (fun w' _=>a1 w') ?_)|(refine Zab (fun w' _=>a2 w') ?_)))|refine walk ?_)
   exact rtA
 | false =>
 cases q4 with
 | true =>
  cases ok <;> cases A1 <;> cases A2
  all_goals first|exact absurd hK2 (by decide)|skip
  all_goals
   repeat (first|refine und ?_|(apply RL_pu;rfl;exact Zxu)|(refine js ?_;(first|(refine Zab (fun w' _=>hsl w') ?_)|(apply Zae (h:=fun w' _ _=>hlt w');rfl;rintro v O' ⟨⟨lx,ly,rfl,hxy⟩,rfl⟩)|(refine Zab (fun w' _=>a0 w') ?_)|(refine Zab (fun w' _=>a1 w') ?_)|(refine Zab (fun w' _=>a2 w') ?_)))|refine walk1 ?_)
   exact rtA
 | false =>
 cases I0 with
 | true =>
  cases ok <;> cases A1 <;> cases A2
  all_goals first|exact absurd hK2 (by decide)|skip
  all_goals
   repeat (first|refine ZoG ?_|(refine js ?_;(apply Zae (h:=fun w' _ _=>hlt w');rfl;rintro v O' ⟨⟨lx,ly,rfl,hxy⟩,rfl⟩)))
   exact rtA
 | false =>
 cases ok with
 | false =>
  repeat (first|refine ZoG ?_|(refine js ?_;(apply Zae (h:=fun w' _ _=>hlt w');rfl;rintro v O' ⟨⟨lx,ly,rfl,hxy⟩,rfl⟩)))
  exact rtA
 | true =>
 cases I1 with
 | false =>
  cases A1 <;> cases A2
  all_goals first|exact absurd hK2 (by decide)|skip
  all_goals
   repeat (first|refine ZoG ?_|(refine js ?_;(apply Zae (h:=fun w' _ _=>hlt w');rfl;rintro v O' ⟨⟨lx,ly,rfl,hxy⟩,rfl⟩)))
   exact rtA
 | true =>
  cases I2 <;> cases A1 <;> cases A2
  all_goals first|exact absurd hK2 (by decide)|skip
  all_goals
   repeat (first|refine ZoG ?_|(refine js ?_;(apply Zae (h:=fun w' _ _=>hlt w');rfl;rintro v O' ⟨⟨lx,ly,rfl,hxy⟩,rfl⟩)))
   exact rtA
end Go.Proofs.YtpipekfmecikmaaGreatDoor
