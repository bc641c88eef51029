/- For every input analemmalaw31.TranslateMeans returns true, and its arguments read behind the call as they did; the card ties the listed variables to the program's text; no other condition. -/
import Derived.Test.YtbjomhdhkpgbaaaGreatDoorV32
import Derived.Test.YtbjomhdhkpgbaaaGreatDoorV33
import Derived.Test.YtbjomhdhkpgbaaaGreatDoorV35
import Derived.Test.YtbjomhdhkpgbaaaGreatDoorTie
import Derived.Test.YtbjomhdhkpgbaaaGreatDoorCards
import Derived.SevenTiedAt
set_option maxHeartbeats 4000000
set_option linter.unusedVariables false
set_option linter.unusedSimpArgs false
namespace Go.Proofs.YtbjomhdhkpgbaaaGreatDoor
open Go Go.RowKit Go.Wk Go.ChangeShapes Go.WideShapes Go.ChangeAt
set_option maxRecDepth 100000 in
theorem Zgj {H:Type}{enc:TypeId × Value->H}(W:World)(base:Nat)(args:List Value)(ds:List (DataW H))(p:List MemPlace)(hL:LibW W)(hG:Glob W)(hM:MeG W)
  (hval:∀ (j:Nat) t v,[26,5,5,71][j]?=some t->args[j]?=some v->Value.okWide Tryz.prog W .any base t v)
  (hA:DataW.TrodAll enc Tryz.prog W 0 (fun _=>true) true [26,5,5,71] args ds p):Does Tryz.prog 7 args W (fun v _=>v = .bool true):=by
 obtain⟨v0,vs0,d0,ds0,p0,q0,rfl,rfl,rfl,h0,r0⟩:=trodAll_cons hA
 obtain⟨v1,vs1,d1,ds1,p1,q1,rfl,rfl,rfl,h1,r1⟩:=trodAll_cons r0
 obtain⟨v2,vs2,d2,ds2,p2,q2,rfl,rfl,rfl,h2,r2⟩:=trodAll_cons r1
 obtain⟨v3,vs3,d3,ds3,p3,q3,rfl,rfl,rfl,h3,r3⟩:=trodAll_cons r2
 obtain⟨rfl,rfl,rfl⟩:=trodAll_nil r3
 obtain⟨As,Az,Al,cs,cz,cl,d,rfl,s1,s2,s3,s4,s5,s6⟩:=Zya (hval 0 _ v0 rfl rfl) h0
 obtain⟨x1,rfl,b1⟩:=ZuM (hval 1 _ v1 rfl rfl) h1
 obtain⟨x2,rfl,b2⟩:=ZuM (hval 2 _ v2 rfl rfl) h2
 obtain⟨x3,rfl,b3⟩:=Zx9 (hval 3 _ v3 rfl rfl) h3
 exact(Zgk As Az Al cs cz cl d x1 x2 x3 W hL hG hM s1 s2 s3 s4 s5 s6 b1 b2 b3).mono fun v O h=>h.1
theorem ZuK:ownKnob Tryz.prog.godebug=none:=by kernel_rfl
set_option maxRecDepth 100000 in
theorem Ze8 (os:Os)(started:os.Started)(H:Type)(enc:TypeId × Value->H) :
  ReturnsInHanded {} Tryz.checked os 7 .any (fun w args=>(Rows.translateMeansSpec.pre enc Tryz.prog Tryz.f7 Rows.translateMeansRow.domain false w args/\laidMetH Tryz.prog Rows.translateMeansRow.laid w)/\sizedMet enc Tryz.prog Tryz.f7 (OpenSpec.ofChange Rows.translateMeansSpec) false w args)
   (Rows.translateMeansSpec.post enc Tryz.prog Tryz.f7 false true false false):=by
 refine ZpG (C:=Tryz.checked) (t:=4) Rows.translateMeansRow.laid ZuK started (by kernel_rfl) Tryz.func7
  (ChangeSpec.witness_shaped (enc:=enc) (C:=Tryz.checked) (os:=os) (X:=fun w _=>laidMetH Tryz.prog Rows.translateMeansRow.laid w) false (accW os) #[.agg #[.slice none 0 0,.slice none 0 0,.slice none 0 0],.int .u8 0,.int .u8 0,.int .u64 0] 8 rfl (World.shaped_of_RefB (by kernel_rfl) (by kernel_rfl)) (by kernel_rfl) (by kernel_rfl) (by kernel_rfl) (ZBx os _)) rfl rfl Tryz.underlying4 af2 (by kernel_rfl) ?_ ?_
 ·intro ds hd
  obtain⟨d0,ds0,rfl,h0⟩:=ZbN (k:=3) hd
  obtain⟨d1,ds1,rfl,h1⟩:=ZbN (k:=2) h0
  obtain⟨d2,ds2,rfl,h2⟩:=ZbN (k:=1) h1
  obtain⟨d3,ds3,rfl,h3⟩:=ZbN (k:=0) h2
  obtain rfl:=List.eq_nil_of_length_eq_zero h3
  rfl
 ·intro W base args ds p hval hL hS hA
  exact Zgj W base args ds p (ZCq hL hS) (ZA9 hL) (ZDd hL) hval hA
theorem Zwh:joinedFacts Tryz.prog 7 Tryz.f7 Rows.translateMeansSpec Rows.translateMeansRow=true:=by
 unfold joinedFacts
 exact Zcg (Zcg (Zcg (Zcg (Zcg (Zcg (Zcg (Zcg (Zcg (Zcg (Zcg (Zcg (Zcg (Zcg (Zcg (Zcg (Zcg (Zcg (Zcg (Zcg (Zcg (Zcg (Zcg (Zcg (Zcg (Zcg (Zcg (Zcg (Zcg (Zcg (Zcg af1 af2) af3) (by kernel_rfl)) af5) (by kernel_rfl)) (by kernel_rfl)) (by kernel_rfl)) (by kernel_rfl)) af10) af11) af12) af13) (by kernel_rfl)) (by kernel_rfl)) (by kernel_rfl)) (by kernel_rfl)) (by kernel_rfl)) (by kernel_rfl)) (by kernel_rfl)) (by kernel_rfl)) (by kernel_rfl)) af23) (by kernel_rfl)) af25) af26) af27) af28) (by kernel_rfl)) (by kernel_rfl)) (by kernel_rfl)) (by kernel_rfl)
theorem translateMeans_row_holds:Rows.TranslateMeansSaid :=
 OpenClaim.holds_of_wide 7 Tryz.f7 rfl rfl rfl rfl rfl rfl rfl ⟨rfl,rfl,rfl,rfl,rfl⟩ rfl rfl rfl rfl rfl ZCF Tryz.func7 Zwh
  ZBv ZBt
  (fun os started H enc _=>Ze8 os started H enc)
theorem translateMeans_holds:Rows.TranslateMeansCardSaid :=
 Claim7.holds_tied_plain_at .later [] [.data,.data,.data,.data,.sentinel,.sentinel,.data,.funcs,.funcs,.widerDeep,.funcs,.pinned] true (true, "3d169eba04c2ae9ab9c5e3713ae2372aebf789426dd2a12541f32d536c18ae94") true
  translateMeans_row_holds (fun _ h=>by cases h) ZDj (fun _ h=>by cases h) translateMeans_row_tie rfl ⟨rfl,rfl⟩ ZBu rfl
  (fun f fn hf hfn=>by
   obtain rfl:f=7:=Option.some.inj (ZCF.symm.trans hf) |>.symm
   obtain rfl:fn=Tryz.f7:=(Option.some.inj (Tryz.func7.symm.trans hfn)).symm
   exact⟨Zy0,fun j t ht=>by
    have h2:Tryz.f7.params.toList.all (fun t => !Tryz.prog.wantsStandIn t)=true:=by kernel_rfl
    have h3:=List.all_eq_true.1 h2 t (by rw[Array.mem_toList_iff];exact Array.mem_of_getElem? ht)
    have h4:Tryz.prog.wantsStandIn t=false:=by simpa using h3
    exact h4⟩)
  ZBw
end Go.Proofs.YtbjomhdhkpgbaaaGreatDoor
