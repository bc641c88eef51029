/- For every input analemmalaw26.MeaningTells returns true, and its arguments read behind the call as they did; the card ties the listed variables to the program's text; no other condition. -/
import Derived.Test.YtpipekfmecikmaaGreatDoorW41
import Derived.Test.YtpipekfmecikmaaGreatDoorW40
import Derived.Test.YtpipekfmecikmaaGreatDoorW43
import Derived.Test.YtpipekfmecikmaaGreatDoorW44
import Derived.Test.YtpipekfmecikmaaGreatDoorW45
import Derived.Test.YtpipekfmecikmaaGreatDoorW46
import Derived.Test.YtpipekfmecikmaaGreatDoorTie
import Derived.Test.YtpipekfmecikmaaGreatDoorCards
import Derived.SevenTiedAt
set_option maxHeartbeats 4000000
set_option linter.unusedVariables false
set_option linter.unusedSimpArgs false
namespace Go.Proofs.YtpipekfmecikmaaGreatDoor
open Go Go.RowKit Go.Wk Go.ChangeShapes Go.WideShapes Go.ChangeAt
set_option maxRecDepth 100000 in
theorem Zgs {H:Type}{enc:TypeId × Value->H}(W:World)(c:Nat)(args:List Value)(i:List (DataW H))(p:List MemPlace)(u:LibW W)(s:Glob W)(w:MeG W)
  (b:∀ (j:Nat) t v,[27,9,2][j]?=some t->args[j]?=some v->Value.okWide Tryz.prog W .any c t v)
  (r:DataW.TrodAll enc Tryz.prog W 0 (fun _=>true) true [27,9,2] args i p):Does Tryz.prog 4 args W (fun v _=>v = .bool true):=by
 obtain⟨v0,C,I,k,L,P,rfl,rfl,rfl,n,y⟩:=trodAll_cons r
 obtain⟨B,D,J,l,M,Q,rfl,rfl,rfl,o,z⟩:=trodAll_cons y
 obtain⟨v2,E,K,m,N,R,rfl,rfl,rfl,q,A⟩:=trodAll_cons z
 obtain⟨rfl,rfl,rfl⟩:=trodAll_nil A
 obtain⟨Ar,Az,Al,As,f,g,e,cs,a,rfl,x,d⟩:=Zor (b 0 _ v0 rfl rfl) n
 obtain⟨F,rfl⟩:=Zww (b 1 _ B rfl rfl) o
 obtain⟨G,rfl⟩:=Zwx (b 2 _ v2 rfl rfl) q
 exact(Zgt Ar Az Al As f g e cs a F G W u s w x d).mono fun v O h=>h.1
theorem Ztg:ownKnob Tryz.prog.godebug=none:=by kernel_rfl
set_option maxRecDepth 100000 in
theorem Zft (os:Os)(a:os.Started)(H:Type)(enc:TypeId × Value->H) :
  ReturnsInHanded {} Tryz.checked os 4 .any (fun w args=>(Rows.meaningTellsSpec.pre enc Tryz.prog Tryz.f4 Rows.meaningTellsRow.domain false w args/\laidMetH Tryz.prog Rows.meaningTellsRow.laid w)/\sizedMet enc Tryz.prog Tryz.f4 (OpenSpec.ofChange Rows.meaningTellsSpec) false w args)
   (Rows.meaningTellsSpec.post enc Tryz.prog Tryz.f4 false true false false):=by
 refine ZoC (C:=Tryz.checked) (t:=4) Rows.meaningTellsRow.laid Ztg a (by kernel_rfl) Tryz.func4
  (ChangeSpec.witness_shaped (enc:=enc) (C:=Tryz.checked) (os:=os) (X:=fun w _=>laidMetH Tryz.prog Rows.meaningTellsRow.laid w) false (accW os) #[.agg #[.slice none 0 0,.slice none 0 0,.slice none 0 0,.slice none 0 0],.string ByteArray.empty,.int .i64 0] 8 rfl (World.shaped_of_RefB (by kernel_rfl) (by kernel_rfl)) (by kernel_rfl) (by kernel_rfl) (by kernel_rfl) (ZAr os _)) rfl rfl Tryz.underlying4 af2 (by kernel_rfl) ?_ ?_
 ·intro e o
  obtain⟨q,f,rfl,i⟩:=Zax (k:=2) o
  obtain⟨r,g,rfl,j⟩:=Zax (k:=1) i
  obtain⟨s,h,rfl,l⟩:=Zax (k:=0) j
  obtain rfl:=List.eq_nil_of_length_eq_zero l
  rfl
 ·intro W b args e p c d n m
  exact Zgs W b args e p (ZAZ d n) (Zz3 d) (ZCe d) c m
theorem Zup:joinedFacts Tryz.prog 4 Tryz.f4 Rows.meaningTellsSpec Rows.meaningTellsRow=true:=by
 unfold joinedFacts
 exact ZbP (ZbP (ZbP (ZbP (ZbP (ZbP (ZbP (ZbP (ZbP (ZbP (ZbP (ZbP (ZbP (ZbP (ZbP (ZbP (ZbP (ZbP (ZbP (ZbP (ZbP (ZbP (ZbP (ZbP (ZbP (ZbP (ZbP (ZbP (ZbP (ZbP (ZbP af1 af2) af3) (by kernel_rfl)) af5) (by kernel_rfl)) (by kernel_rfl)) (by kernel_rfl)) (by kernel_rfl)) af10) af11) af12) af13) (by kernel_rfl)) (by kernel_rfl)) (by kernel_rfl)) (by kernel_rfl)) (by kernel_rfl)) (by kernel_rfl)) (by kernel_rfl)) (by kernel_rfl)) (by kernel_rfl)) af23) (by kernel_rfl)) af25) af26) af27) af28) (by kernel_rfl)) (by kernel_rfl)) (by kernel_rfl)) (by kernel_rfl)
theorem meaningTells_row_holds:Rows.MeaningTellsSaid :=
 OpenClaim.holds_of_wide 4 Tryz.f4 rfl rfl rfl rfl rfl rfl rfl ⟨rfl,rfl,rfl,rfl,rfl⟩ rfl rfl rfl rfl rfl ZBo Tryz.func4 Zup
  ZAo ZAm
  (fun os a H enc _=>Zft os a H enc)
theorem meaningTells_holds:Rows.MeaningTellsCardSaid :=
 Claim7.holds_tied_plain_at .later [] [.data,.data,.data,.data,.sentinel,.sentinel,.data,.funcs,.funcs,.funcs,.pinned] true (true, "c15faa29f47f312d0e243cd074e7801d46628aefb43134b5bf9f8ca659cde5db") true
  meaningTells_row_holds (fun _ h=>by cases h) ZCh (fun _ h=>by cases h) meaningTells_row_tie rfl ⟨rfl,rfl⟩ ZAn rfl
  (fun f fn e a=>by
   obtain rfl:f=4:=Option.some.inj (ZBo.symm.trans e) |>.symm
   obtain rfl:fn=Tryz.f4:=(Option.some.inj (Tryz.func4.symm.trans a)).symm
   exact⟨Zw7,fun j t g=>by
    have b:Tryz.f4.params.toList.all (fun t => !Tryz.prog.wantsStandIn t)=true:=by kernel_rfl
    have c:=List.all_eq_true.1 b t (by rw[Array.mem_toList_iff];exact Array.mem_of_getElem? g)
    have d:Tryz.prog.wantsStandIn t=false:=by simpa using c
    exact d⟩)
  ZAp
end Go.Proofs.YtpipekfmecikmaaGreatDoor
