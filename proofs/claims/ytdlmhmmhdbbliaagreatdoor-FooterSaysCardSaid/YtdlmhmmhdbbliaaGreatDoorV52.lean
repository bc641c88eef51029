/- For every input analemmalaw38.FooterSays returns true, and its arguments read behind the call as they did; the card ties the listed variables to the program's text; no other condition. -/
import Derived.Test.YtdlmhmmhdbbliaaGreatDoorV43
import Derived.Test.YtdlmhmmhdbbliaaGreatDoorV42
import Derived.Test.YtdlmhmmhdbbliaaGreatDoorV46
import Derived.Test.YtdlmhmmhdbbliaaGreatDoorV45
import Derived.Test.YtdlmhmmhdbbliaaGreatDoorV47
import Derived.Test.YtdlmhmmhdbbliaaGreatDoorV48
import Derived.Test.YtdlmhmmhdbbliaaGreatDoorV49
import Derived.Test.YtdlmhmmhdbbliaaGreatDoorTie
import Derived.Test.YtdlmhmmhdbbliaaGreatDoorCards
import Derived.SevenTiedAt
set_option maxHeartbeats 4000000
set_option linter.unusedVariables false
set_option linter.unusedSimpArgs false
namespace Go.Proofs.YtdlmhmmhdbbliaaGreatDoor
open Go Go.RowKit Go.Wk Go.ChangeShapes Go.WideShapes Go.ChangeAt
set_option maxRecDepth 100000 in
theorem ZiM {H:Type}{enc:TypeId × Value->H}(W:World)(base:Nat)(args:List Value)(ds:List (DataW H))(p:List MemPlace)(hL:LibW W)(hG:Glob W)(hF:FtG W)(hM:MeG W)(hP:PowT W)(hU:UnG W)
  (hval:∀ (j:Nat) t v,[26,5,54,55][j]?=some t->args[j]?=some v->Value.okWide Tryz.prog W .any base t v)
  (hA:DataW.TrodAll enc Tryz.prog W 0 (fun _=>true) true [26,5,54,55] args ds p):Does Tryz.prog 4 args W (fun v _=>v = .bool true):=by
 obtain⟨v0,vs0,d0,ds0,p0,q0,rfl,rfl,rfl,h0,r0⟩:=trodAll_cons hA
 obtain⟨v1,vs1,d1,ds1,p1,q1,rfl,rfl,rfl,h1,r1⟩:=trodAll_cons r0
 obtain⟨v2,vs2,d2,ds2,p2,q2,rfl,rfl,rfl,h2,r2⟩:=trodAll_cons r1
 obtain⟨v3,vs3,d3,ds3,p3,q3,rfl,rfl,rfl,h3,r3⟩:=trodAll_cons r2
 obtain⟨rfl,rfl,rfl⟩:=trodAll_nil r3
 obtain⟨As,Az,Al,cs,cz,cl,d,rfl,s1,s2,s3,s4,s5,s6⟩:=Zwq (hval 0 _ v0 rfl rfl) h0
 obtain⟨x1,rfl,b1⟩:=Zy5 (hval 1 _ v1 rfl rfl) h1
 obtain⟨x2,rfl,b2⟩:=Zwo (hval 2 _ v2 rfl rfl) h2
 obtain⟨x3,rfl,b3⟩:=Zwp (hval 3 _ v3 rfl rfl) h3
 exact(ZiN As Az Al cs cz cl d x1 x2 x3 W hL hG hF hM hP hU s1 s2 s3 s4 s5 s6 b1 b2 b3).mono fun v O h=>h.1
theorem Zs3:ownKnob Tryz.prog.godebug=none:=by kernel_rfl
set_option maxRecDepth 100000 in
theorem Zhb (os:Os)(started:os.Started)(H:Type)(enc:TypeId × Value->H) :
  ReturnsInHanded {} Tryz.checked os 4 .any (fun w args=>(Rows.footerSaysSpec.pre enc Tryz.prog Tryz.f4 Rows.footerSaysRow.domain false w args/\laidMetH Tryz.prog Rows.footerSaysRow.laid w)/\sizedMet enc Tryz.prog Tryz.f4 (OpenSpec.ofChange Rows.footerSaysSpec) false w args)
   (Rows.footerSaysSpec.post enc Tryz.prog Tryz.f4 false true false false):=by
 refine Zox (C:=Tryz.checked) (t:=4) Rows.footerSaysRow.laid Zs3 started (by kernel_rfl) Tryz.func4
  (ChangeSpec.witness_shaped (enc:=enc) (C:=Tryz.checked) (os:=os) (X:=fun w _=>laidMetH Tryz.prog Rows.footerSaysRow.laid w) false (accW os) #[.agg #[.slice none 0 0,.slice none 0 0,.slice none 0 0],.int .u8 0,.int .u32 0,.int .u16 0] 8 rfl (World.shaped_of_RefB (by kernel_rfl) (by kernel_rfl)) (by kernel_rfl) (by kernel_rfl) (by kernel_rfl) (ZzF os _)) rfl rfl Tryz.underlying4 af2 (by kernel_rfl) ?_ ?_
 ·intro ds hd
  obtain⟨d0,ds0,rfl,h0⟩:=Zbs (k:=3) hd
  obtain⟨d1,ds1,rfl,h1⟩:=Zbs (k:=2) h0
  obtain⟨d2,ds2,rfl,h2⟩:=Zbs (k:=1) h1
  obtain⟨d3,ds3,rfl,h3⟩:=Zbs (k:=0) h2
  obtain rfl:=List.eq_nil_of_length_eq_zero h3
  rfl
 ·intro W base args ds p hval hL hS hA
  exact ZiM W base args ds p (ZAu hL hS) (Zzi hL) (ZBt hL) (ZBp hL) (ZAl hL) (ZAa hL) hval hA
theorem Zuy:joinedFacts Tryz.prog 4 Tryz.f4 Rows.footerSaysSpec Rows.footerSaysRow=true:=by
 unfold joinedFacts
 exact ZbZ (ZbZ (ZbZ (ZbZ (ZbZ (ZbZ (ZbZ (ZbZ (ZbZ (ZbZ (ZbZ (ZbZ (ZbZ (ZbZ (ZbZ (ZbZ (ZbZ (ZbZ (ZbZ (ZbZ (ZbZ (ZbZ (ZbZ (ZbZ (ZbZ (ZbZ (ZbZ (ZbZ (ZbZ (ZbZ (ZbZ af1 af2) af3) (by kernel_rfl)) af5) (by kernel_rfl)) (by kernel_rfl)) (by kernel_rfl)) (by kernel_rfl)) af10) af11) af12) af13) (by kernel_rfl)) (by kernel_rfl)) (by kernel_rfl)) (by kernel_rfl)) (by kernel_rfl)) (by kernel_rfl)) (by kernel_rfl)) (by kernel_rfl)) (by kernel_rfl)) af23) (by kernel_rfl)) af25) af26) af27) af28) (by kernel_rfl)) (by kernel_rfl)) (by kernel_rfl)) (by kernel_rfl)
theorem footerSays_row_holds:Rows.FooterSaysSaid :=
 OpenClaim.holds_of_wide 4 Tryz.f4 rfl rfl rfl rfl rfl rfl rfl ⟨rfl,rfl,rfl,rfl,rfl⟩ rfl rfl rfl rfl rfl ZAQ Tryz.func4 Zuy
  ZzD ZzB
  (fun os started H enc _=>Zhb os started H enc)
theorem footerSays_holds:Rows.FooterSaysCardSaid :=
 Claim7.holds_tied_plain_at .later [] [.data,.data,.data,.data,.sentinel,.sentinel,.data,.funcs,.data,.funcs,.funcs,.funcs,.pinned] true (true, "7d74553a43dc03c478512c6bea16ce338c67dbe607f783aa2dcb45a14c62eba4") true
  footerSays_row_holds (fun _ h=>by cases h) ZBB (fun _ h=>by cases h) footerSays_row_tie rfl ⟨rfl,rfl⟩ ZzC rfl
  (fun f fn hf hfn=>by
   obtain rfl:f=4:=Option.some.inj (ZAQ.symm.trans hf) |>.symm
   obtain rfl:fn=Tryz.f4:=(Option.some.inj (Tryz.func4.symm.trans hfn)).symm
   exact⟨Zw8,fun j t ht=>by
    have h2:Tryz.f4.params.toList.all (fun t => !Tryz.prog.wantsStandIn t)=true:=by kernel_rfl
    have h3:=List.all_eq_true.1 h2 t (by rw[Array.mem_toList_iff];exact Array.mem_of_getElem? ht)
    have h4:Tryz.prog.wantsStandIn t=false:=by simpa using h3
    exact h4⟩)
  ZzE
end Go.Proofs.YtdlmhmmhdbbliaaGreatDoor
