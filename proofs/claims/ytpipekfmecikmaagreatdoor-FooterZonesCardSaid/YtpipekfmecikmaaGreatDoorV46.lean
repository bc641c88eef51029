/- For every input analemmalaw38.FooterZones returns true, and its arguments read behind the call as they did; the card ties the listed variables to the program's text; no other condition. -/
import Derived.Test.YtpipekfmecikmaaGreatDoorV38
import Derived.Test.YtpipekfmecikmaaGreatDoorV40
import Derived.Test.YtpipekfmecikmaaGreatDoorV41
import Derived.Test.YtpipekfmecikmaaGreatDoorV42
import Derived.Test.YtpipekfmecikmaaGreatDoorV43
import Derived.Test.YtpipekfmecikmaaGreatDoorTie
import Derived.Test.YtpipekfmecikmaaGreatDoorCards
import Derived.SevenTiedAt
set_option maxHeartbeats 4000000
set_option linter.unusedVariables false
set_option linter.unusedSimpArgs false
namespace Go.Proofs.YtpipekfmecikmaaGreatDoor
open Go Go.RowKit Go.Wk Go.ChangeShapes Go.WideShapes Go.ChangeAt
set_option maxRecDepth 100000 in
theorem ZgS {H:Type}{enc:TypeId × Value->H}(W:World)(base:Nat)(args:List Value)(ds:List (DataW H))(p:List MemPlace)(hL:LibW W)(hG:Glob W)(hF:FtG W)
  (hval:∀ (j:Nat) t v,[27,3][j]?=some t->args[j]?=some v->Value.okWide Tryz.prog W .any base t v)
  (hA:DataW.TrodAll enc Tryz.prog W 0 (fun _=>true) true [27,3] args ds p):Does Tryz.prog 3 args W (fun v _=>v = .bool true):=by
 obtain⟨v0,vs0,d0,ds0,p0,q0,rfl,rfl,rfl,h0,r0⟩:=trodAll_cons hA
 obtain⟨v1,vs1,d1,ds1,p1,q1,rfl,rfl,rfl,h1,r1⟩:=trodAll_cons r0
 obtain⟨rfl,rfl,rfl⟩:=trodAll_nil r1
 obtain⟨Ar,Az,Al,As,cr,cz,cl,cs,a,rfl,ha,hok⟩:=Znr (hval 0 _ v0 rfl rfl) h0
 obtain⟨x1,rfl⟩:=Zu5 (hval 1 _ v1 rfl rfl) h1
 exact(ZgT Ar Az Al As cr cz cl cs a x1 W hL hG hF ha hok).mono fun v O h=>h.1
theorem ZrY:ownKnob Tryz.prog.godebug=none:=by kernel_rfl
set_option maxRecDepth 100000 in
theorem ZfD (os:Os)(started:os.Started)(H:Type)(enc:TypeId × Value->H) :
  ReturnsInHanded {} Tryz.checked os 3 .any (fun w args=>(Rows.footerZonesSpec.pre enc Tryz.prog Tryz.f3 Rows.footerZonesRow.domain false w args/\laidMetH Tryz.prog Rows.footerZonesRow.laid w)/\sizedMet enc Tryz.prog Tryz.f3 (OpenSpec.ofChange Rows.footerZonesSpec) false w args)
   (Rows.footerZonesSpec.post enc Tryz.prog Tryz.f3 false true false false):=by
 refine ZnC (C:=Tryz.checked) (t:=4) Rows.footerZonesRow.laid ZrY started (by kernel_rfl) Tryz.func3
  (ChangeSpec.witness_shaped (enc:=enc) (C:=Tryz.checked) (os:=os) (X:=fun w _=>laidMetH Tryz.prog Rows.footerZonesRow.laid w) false (accW os) #[.agg #[.slice none 0 0,.slice none 0 0,.slice none 0 0,.slice none 0 0],.int .i64 0] 8 rfl (World.shaped_of_RefB (by kernel_rfl) (by kernel_rfl)) (by kernel_rfl) (by kernel_rfl) (by kernel_rfl) (ZyH os _)) rfl rfl Tryz.underlying4 af2 (by kernel_rfl) ?_ ?_
 ·intro ds hd
  obtain⟨d0,ds0,rfl,h0⟩:=Zav (k:=1) hd
  obtain⟨d1,ds1,rfl,h1⟩:=Zav (k:=0) h0
  obtain rfl:=List.eq_nil_of_length_eq_zero h1
  rfl
 ·intro W base args ds p hval hL hS hA
  exact ZgS W base args ds p (Zzl hL hS) (Zym hL) (ZAs hL) hval hA
theorem Zs0:joinedFacts Tryz.prog 3 Tryz.f3 Rows.footerZonesSpec Rows.footerZonesRow=true:=by
 unfold joinedFacts
 exact ZbF (ZbF (ZbF (ZbF (ZbF (ZbF (ZbF (ZbF (ZbF (ZbF (ZbF (ZbF (ZbF (ZbF (ZbF (ZbF (ZbF (ZbF (ZbF (ZbF (ZbF (ZbF (ZbF (ZbF (ZbF (ZbF (ZbF (ZbF (ZbF (ZbF (ZbF af1 af2) af3) (by kernel_rfl)) af5) (by kernel_rfl)) (by kernel_rfl)) (by kernel_rfl)) (by kernel_rfl)) af10) af11) af12) af13) (by kernel_rfl)) (by kernel_rfl)) (by kernel_rfl)) (by kernel_rfl)) (by kernel_rfl)) (by kernel_rfl)) (by kernel_rfl)) (by kernel_rfl)) (by kernel_rfl)) af23) (by kernel_rfl)) af25) af26) af27) af28) (by kernel_rfl)) (by kernel_rfl)) (by kernel_rfl)) (by kernel_rfl)
theorem footerZones_row_holds:Rows.FooterZonesSaid :=
 OpenClaim.holds_of_wide 3 Tryz.f3 rfl rfl rfl rfl rfl rfl rfl ⟨rfl,rfl,rfl,rfl,rfl⟩ rfl rfl rfl rfl rfl ZzH Tryz.func3 Zs0
  ZyE ZyC
  (fun os started H enc _=>ZfD os started H enc)
theorem footerZones_holds:Rows.FooterZonesCardSaid :=
 Claim7.holds_tied_plain_at .later [] [.data,.data,.data,.data,.sentinel,.sentinel,.data,.funcs,.funcs,.funcs,.pinned] true (true, "c15faa29f47f312d0e243cd074e7801d46628aefb43134b5bf9f8ca659cde5db") true
  footerZones_row_holds (fun _ h=>by cases h) ZAu (fun _ h=>by cases h) footerZones_row_tie rfl ⟨rfl,rfl⟩ ZyD rfl
  (fun f fn hf hfn=>by
   obtain rfl:f=3:=Option.some.inj (ZzH.symm.trans hf) |>.symm
   obtain rfl:fn=Tryz.f3:=(Option.some.inj (Tryz.func3.symm.trans hfn)).symm
   exact⟨ZvF,fun j t ht=>by
    have h2:Tryz.f3.params.toList.all (fun t => !Tryz.prog.wantsStandIn t)=true:=by kernel_rfl
    have h3:=List.all_eq_true.1 h2 t (by rw[Array.mem_toList_iff];exact Array.mem_of_getElem? ht)
    have h4:Tryz.prog.wantsStandIn t=false:=by simpa using h3
    exact h4⟩)
  ZyF
end Go.Proofs.YtpipekfmecikmaaGreatDoor
