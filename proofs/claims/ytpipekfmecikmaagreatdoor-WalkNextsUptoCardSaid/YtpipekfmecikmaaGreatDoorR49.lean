/- Where what it reads is of bulk at most 1048576 analemmalaw27.WalkNexts returns true, and its arguments read behind the call as they did; the card ties the listed variables to the program's text; no other condition. -/
import Derived.Test.YtpipekfmecikmaaGreatDoorR43
import Derived.Test.YtpipekfmecikmaaGreatDoorR44
import Derived.Test.YtpipekfmecikmaaGreatDoorR45
import Derived.Test.YtpipekfmecikmaaGreatDoorR46
import Derived.Test.YtpipekfmecikmaaGreatDoorTie
import Derived.Test.YtpipekfmecikmaaGreatDoorCards
set_option maxHeartbeats 4000000
set_option linter.all false
namespace Go.Proofs.YtpipekfmecikmaaGreatDoor
open Go Go.RowKit Go.Wk Go.ChangeShapes Go.WideShapes Go.ChangeAt
set_option maxRecDepth 100000 in
theorem Zjb {H:Type}{enc:TypeId × Value->H}(W:World)(base:Nat)(args:List Value)(d:List (DataW H))(p:List MemPlace)(s:LibW W)(r:Glob W)
  (b:∀ (j:Nat) t v,[27,9,2][j]?=some t->args[j]?=some v->Value.okWide Tryz.prog W .any base t v)
  (q:DataW.TrodAll enc Tryz.prog W 0 (fun _=>true) true [27,9,2] args d p) (x:Rows.uptoSmall H d=true):Does Tryz.prog 5 args W (fun v _=>v = .bool true):=by
 obtain⟨v0,C,I,i,L,P,rfl,rfl,rfl,m,y⟩:=trodAll_cons q
 obtain⟨B,D,J,k,M,Q,rfl,rfl,rfl,n,z⟩:=trodAll_cons y
 obtain⟨v2,E,K,l,N,R,rfl,rfl,rfl,o,A⟩:=trodAll_cons z
 obtain⟨rfl,rfl,rfl⟩:=trodAll_nil A
 obtain⟨Ar,Az,Al,As,f,g,e,cs,a,rfl,w,c,u⟩:=Zmg (b 0 _ v0 rfl rfl) m (Nat.le_trans (Zhw (by simp)) (of_decide_eq_true x:Rows.uptoBulkAll _<=1048576))
 obtain⟨F,rfl⟩:=Zv9 (b 1 _ B rfl rfl) n
 obtain⟨G,rfl⟩:=Zwa (b 2 _ v2 rfl rfl) o
 exact(Zjc Ar Az Al As f g e cs a F G W s r w c u).mono fun v O h=>h.1
theorem ZsX:ownKnob Tryz.prog.godebug=none:=by kernel_rfl
set_option maxRecDepth 100000 in
theorem Zho (os:Os)(a:os.Started)(H:Type)(enc:TypeId × Value->H) :
  ReturnsInHanded {} Tryz.checked os 5 .any (fun w args=>((upS Rows.walkNextsSpec Rows.uptoSmall).pre enc Tryz.prog Tryz.f5 Rows.walkNextsUptoRow.domain false w args/\laidMetH Tryz.prog Rows.walkNextsUptoRow.laid w)/\sizedMet enc Tryz.prog Tryz.f5 (upS Rows.walkNextsSpec Rows.uptoSmall) false w args)
   (Rows.walkNextsSpec.post enc Tryz.prog Tryz.f5 false true false false):=by
 refine Zor (C:=Tryz.checked) (t:=4) Rows.walkNextsUptoRow.laid ZsX a (by kernel_rfl) Tryz.func5
  (ZnK (enc:=enc) (C:=Tryz.checked) (os:=os) (X:=fun w _=>laidMetH Tryz.prog Rows.walkNextsUptoRow.laid w) (accW os) #[.agg #[.slice none 0 0,.slice none 0 0,.slice none 0 0,.slice none 0 0],.string ByteArray.empty,.int .i64 0] 8 rfl (World.shaped_of_RefB (by kernel_rfl) (by kernel_rfl)) (by kernel_rfl) (by kernel_rfl) (by kernel_rfl) (ZAo os _)) rfl rfl Tryz.underlying4 af2 (by kernel_rfl) ?_ ?_
 ·intro c n
  obtain⟨q,e,rfl,h⟩:=Zax (k:=2) n
  obtain⟨r,f,rfl,i⟩:=Zax (k:=1) h
  obtain⟨s,g,rfl,j⟩:=Zax (k:=0) i
  obtain rfl:=List.eq_nil_of_length_eq_zero j
  rfl
 ·intro W base args c p b d m l o
  exact Zjb W base args c p (ZBa d m) (ZzX d) b l o
theorem Zuc:joinedFacts Tryz.prog 5 Tryz.f5 (Rows.OpenSpec.upto Rows.walkNextsSpec).bare Rows.walkNextsUptoRow=true:=by
 unfold joinedFacts
 exact ZbS (ZbS (ZbS (ZbS (ZbS (ZbS (ZbS (ZbS (ZbS (ZbS (ZbS (ZbS (ZbS (ZbS (ZbS (ZbS (ZbS (ZbS (ZbS (ZbS (ZbS (ZbS (ZbS (ZbS (ZbS (ZbS (ZbS (ZbS (ZbS (ZbS (ZbS af1 af2) af3) (by kernel_rfl)) af5) (by kernel_rfl)) (by kernel_rfl)) (by kernel_rfl)) (by kernel_rfl)) af10) af11) af12) af13) (by kernel_rfl)) (by kernel_rfl)) (by kernel_rfl)) (by kernel_rfl)) (by kernel_rfl)) (by kernel_rfl)) (by kernel_rfl)) (by kernel_rfl)) (by kernel_rfl)) af23) (by kernel_rfl)) af25) af26) af27) af28) (by kernel_rfl)) (by kernel_rfl)) (by kernel_rfl)) (by kernel_rfl)
theorem walkNexts_row_holds:Rows.WalkNextsUptoSaid :=
 OpenClaim.holds_of_cond (s:=Rows.OpenSpec.upto Rows.walkNextsSpec) 5 Tryz.f5 rfl rfl rfl rfl rfl rfl rfl ⟨rfl,rfl,rfl,rfl,rfl⟩ rfl rfl rfl rfl rfl ZBy Tryz.func5 Zuc
  ZAl ZAj
  (fun os a H enc _ _=>Zho os a H enc)
theorem walkNexts_holds:Rows.WalkNextsUptoCardSaid :=
 Claim7.holds_tied_plain_at .later [] [.data,.data,.data,.data,.sentinel,.sentinel,.data,.funcs,.funcs,.pinned] true (true, "c15faa29f47f312d0e243cd074e7801d46628aefb43134b5bf9f8ca659cde5db") true
  walkNexts_row_holds (fun _ h=>by cases h) ZDm (fun _ h=>by cases h) walkNextsUpto_row_tie rfl ⟨rfl,rfl⟩ ZAk rfl
  (fun f fn e a=>by
   obtain rfl:f=5:=Option.some.inj (ZBy.symm.trans e) |>.symm
   obtain rfl:fn=Tryz.f5:=(Option.some.inj (Tryz.func5.symm.trans a)).symm
   exact⟨ZwM,fun j t g=>by
    have b:Tryz.f5.params.toList.all (fun t => !Tryz.prog.wantsStandIn t)=true:=by kernel_rfl
    have c:=List.all_eq_true.1 b t (by rw[Array.mem_toList_iff];exact Array.mem_of_getElem? g)
    have d:Tryz.prog.wantsStandIn t=false:=by simpa using c
    exact d⟩)
  ZAm
end Go.Proofs.YtpipekfmecikmaaGreatDoor
