/- Parts of the proof. -/
import Derived.Test.YtpipekfmecikmaaGreatDoorR29
set_option maxHeartbeats 4000000
set_option linter.all false
namespace Go.Proofs.YtpipekfmecikmaaGreatDoor
open Go Go.RowKit Go.Wk
attribute [local irreducible] W RL Does Zaq Zai retQ Calls Pu Stp RD Qy Ay Zaj
theorem Zy3 {G:Prop}(h:G:=by(apply Zcc;rfl;rfl;exact hq)):G:=h
theorem Zpz {G G':Prop}(k:G')(h:Hold G'->G:=by intro k9;(first|refine und ?_|(apply RL_pu;rfl;exact Zy3)|(refine js ?_;(first|(refine Zac (fun w' _=>hsl w') ?_)|(refine Zac (fun w' _=>a0 w') ?_)|(refine Zac (fun w' _=>a1 w') ?_)|(refine Zac (fun w' _=>a2 w') ?_)|(refine Zac (fun w' _=>i0 w') ?_)|(refine Zac (fun w' _=>i1 w') ?_)|(refine Zac (fun w' _=>i2 w') ?_)))|refine walk1 ?_);exact k9.out):G:=h ⟨k⟩
set_option maxHeartbeats 2000000 in
theorem Zgv (f:ByteArray)(u:f.size<=1000000000)(w:World):Does Tryz.prog 134 [.string f] w (fun v O=>v = .int .i64 (ZaP f.data.toList)/\O=[]):=by
 have hsl:=fun w'=>ZhP f (by omega) w'
 have c:=fun w'=>ZhU f (by omega) w'
 unfold LetR at c
 have q:=ZqV f.data.toList
 have p:f.data.toList.length=f.size:=rfl
 rw[p]at q
 rw[Ztk]
 have hq:decide (f=(⟨#[37,122]⟩:ByteArray))=decide (f.data.toList=[37,122]):=by
  rw[decide_eq_decide]
  exact⟨fun h=>by rw[h],fun h=>((Zb8 _ f).2 h.symm).symm⟩
 obtain⟨j,m⟩:∃ j,Zcq f.data.toList=j:=⟨_,rfl⟩
 rw[m]at hsl q ⊢
 obtain⟨a,b,ok⟩:=j
 dsimp only at q ⊢
 simp only[slV]at hsl c
 have r:(⟨a.toArray⟩:ByteArray).size=a.length:=by show a.toArray.size=a.length;simp
 have s:(⟨b.toArray⟩:ByteArray).size=b.length:=by show b.toArray.size=b.length;simp
 have a0:=fun w'=>ZeZ f (by omega) w'
 have a1:=fun w'=>ZeZ ⟨a.toArray⟩ (by omega) w'
 have a2:=fun w'=>ZeZ ⟨b.toArray⟩ (by omega) w'
 have i0:=fun w'=>Zfv f (by omega) w'
 have i1:=fun w'=>Zfv ⟨a.toArray⟩ (by omega) w'
 have i2:=fun w'=>Zfv ⟨b.toArray⟩ (by omega) w'
 rw[show Zhq f=Zby f.data.toList from rfl]at a0
 rw[show Zhq ⟨a.toArray⟩=Zby a from rfl]at a1
 rw[show Zhq ⟨b.toArray⟩=Zby b from rfl]at a2
 rw[show(⟨a.toArray⟩:ByteArray).data.toList=a from rfl]at i1
 rw[show(⟨b.toArray⟩:ByteArray).data.toList=b from rfl]at i2
 generalize Zby f.data.toList=A0 at *
 generalize Zby a=A1 at *
 generalize Zby b=A2 at *
 generalize (ZaU f.data.toList).isSome=I0 at *
 generalize (ZaU a).isSome=I1 at *
 generalize (ZaU b).isSome=I2 at *
 generalize (Zbn f.data.toList).isSome=ar at *
 generalize decide (f.data.toList=[37,122])=q4 at *
 refine Zaa Tryz.func134 rfl rfl rfl rfl ?_
 cases A0 with
 | true =>
  repeat (first|(refine js ?_;(first|(refine Zac (fun w' _=>hsl w') ?_)|(apply Zad (h:=fun w' _ _=>c w');rfl;rintro v O' ⟨⟨g,i,rfl,e⟩,rfl⟩)|(refine Zac (fun w' _=>a0 w') ?_)))|refine walk ?_)
  exact rtA
 | false =>
 obtain⟨K2,d⟩:∃ K2,(ok&&(A1&&A2))=K2:=⟨_,rfl⟩
 cases K2 with
 | true =>
  obtain⟨rfl,rfl,rfl⟩:ok=true/\A1=true/\A2=true:=by simpa using d
  repeat (first|(refine js ?_;(first|(refine Zac (fun w' _=>hsl w') ?_)|(apply Zad (h:=fun w' _ _=>c w');rfl;rintro v O' ⟨⟨g,i,rfl,e⟩,rfl⟩)|(refine Zac (fun w' _=>a0 w') ?_)|(refine Zac (fun w' _=>a1 w') ?_)|(refine Zac (fun w' _=>a2 w') ?_)))|refine walk ?_)
  exact rtA
 | false =>
 have t:ZkR false ok A1 A2 ar q4 I0 I1 I2=if ar then 3 else if q4 then 4 else if I0||(ok&&(I1&&I2)) then 5 else 0:=by
  unfold ZkR
  rw[d]
  rfl
 rw[t]
 cases ar with
 | true =>
  cases ok <;> cases A1 <;> cases A2
  all_goals first|exact absurd d (by decide)|skip
  all_goals
   repeat (first|(refine js ?_;(first|(refine Zac (fun w' _=>hsl w') ?_)|(apply Zad (h:=fun w' _ _=>c w');rfl;rintro v O' ⟨⟨g,i,rfl,e⟩,rfl⟩)|(refine Zac (fun w' _=>a0 w') ?_)|(refine Zac (fun w' _=>a1 w') ?_)|(refine Zac (fun w' _=>a2 w') ?_)))|refine walk ?_)
   exact rtA
 | false =>
 cases q4 with
 | true =>
  cases ok <;> cases A1 <;> cases A2
  all_goals first|exact absurd d (by decide)|skip
  all_goals
   repeat (first|(apply RL_pu;rfl;exact Zy3)|(refine js ?_;(first|(refine Zac (fun w' _=>hsl w') ?_)|(apply Zad (h:=fun w' _ _=>c w');rfl;rintro v O' ⟨⟨g,i,rfl,e⟩,rfl⟩)|(refine Zac (fun w' _=>a0 w') ?_)|(refine Zac (fun w' _=>a1 w') ?_)|(refine Zac (fun w' _=>a2 w') ?_)))|refine walk1 ?_)
   exact rtA
 | false =>
 cases I0 with
 | true =>
  cases ok <;> cases A1 <;> cases A2
  all_goals first|exact absurd d (by decide)|skip
  all_goals
   repeat (first|refine Zpz ?_|(refine js ?_;(apply Zad (h:=fun w' _ _=>c w');rfl;rintro v O' ⟨⟨g,i,rfl,e⟩,rfl⟩)))
   exact rtA
 | false =>
 cases ok with
 | false =>
  repeat (first|refine Zpz ?_|(refine js ?_;(apply Zad (h:=fun w' _ _=>c w');rfl;rintro v O' ⟨⟨g,i,rfl,e⟩,rfl⟩)))
  exact rtA
 | true =>
 cases I1 with
 | false =>
  cases A1 <;> cases A2
  all_goals first|exact absurd d (by decide)|skip
  all_goals
   repeat (first|refine Zpz ?_|(refine js ?_;(apply Zad (h:=fun w' _ _=>c w');rfl;rintro v O' ⟨⟨g,i,rfl,e⟩,rfl⟩)))
   exact rtA
 | true =>
  cases I2 <;> cases A1 <;> cases A2
  all_goals first|exact absurd d (by decide)|skip
  all_goals
   repeat (first|refine Zpz ?_|(refine js ?_;(apply Zad (h:=fun w' _ _=>c w');rfl;rintro v O' ⟨⟨g,i,rfl,e⟩,rfl⟩)))
   exact rtA
end Go.Proofs.YtpipekfmecikmaaGreatDoor
