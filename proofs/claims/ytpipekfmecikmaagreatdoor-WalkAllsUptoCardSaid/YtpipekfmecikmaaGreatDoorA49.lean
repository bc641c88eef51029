/- Where what it reads is of bulk at most 1048576 analemmalaw27.WalkAlls returns true, and its arguments read behind the call as they did; the card ties the listed variables to the program's text; no other condition. -/
import Derived.Test.YtpipekfmecikmaaGreatDoorA43
import Derived.Test.YtpipekfmecikmaaGreatDoorA44
import Derived.Test.YtpipekfmecikmaaGreatDoorA45
import Derived.Test.YtpipekfmecikmaaGreatDoorA46
import Derived.Test.YtpipekfmecikmaaGreatDoorTie
import Derived.Test.YtpipekfmecikmaaGreatDoorCards
set_option maxHeartbeats 0
set_option linter.all false
namespace Go.Proofs.YtpipekfmecikmaaGreatDoor
open Go Go.RowKit Go.Wk Go.ChangeShapes Go.WideShapes Go.ChangeAt Proofs.Tryz
set_option maxRecDepth 100000 in
theorem ZkM {H:Type}{enc:TypeId × Value->H}(W:World)(base:Nat)(args:List Value)(d:List (DataW H))(p:List MemPlace)(w:LibW W)(u:Glob W)
  (b:∀ (j:Nat) t v,[27,9,2,2][j]?=some t->args[j]?=some v->Value.okWide prog W .any base t v)
  (s:DataW.TrodAll enc prog W 0 (fun _=>true) true [27,9,2,2] args d p) (z:Rows.uptoSmall H d=true):Does prog 6 args W (fun v _=>v = .bool true):=by
 obtain⟨v0,F,N,i,S,X,rfl,rfl,rfl,n,A⟩:=trodAll_cons s
 obtain⟨E,G,P,k,T,Y,rfl,rfl,rfl,o,B⟩:=trodAll_cons A
 obtain⟨v2,I,Q,l,U,Z,rfl,rfl,rfl,q,C⟩:=trodAll_cons B
 obtain⟨v3,J,R,m,V,q3,rfl,rfl,rfl,r,D⟩:=trodAll_cons C
 obtain⟨rfl,rfl,rfl⟩:=trodAll_nil D
 obtain⟨Ar,Az,Al,As,f,g,e,cs,a,rfl,y,c,x⟩:=Zmv (b 0 _ v0 rfl rfl) n (Nat.le_trans (ZhH (by simp)) (of_decide_eq_true z:Rows.uptoBulkAll _<=1048576))
 obtain⟨K,rfl⟩:=ZwE (b 1 _ E rfl rfl) o
 obtain⟨L,rfl⟩:=Zp1 (b 2 _ v2 rfl rfl) q
 obtain⟨M,rfl⟩:=Zp1 (b 3 _ v3 rfl rfl) r
 exact(ZkN Ar Az Al As f g e cs a K L M W w u y c x).mono fun v O h=>h.1
theorem Ztg:ownKnob prog.godebug=none:=by kernel_rfl
set_option maxRecDepth 100000 in
theorem ZhO (os:Os)(a:os.Started)(H:Type)(enc:TypeId × Value->H) :
  ReturnsInHanded {} Tryz.checked os 6 .any (fun w args=>((upS Rows.walkAllsSpec Rows.uptoSmall).pre enc prog Tryz.f6 Rows.walkAllsUptoRow.domain false w args/\laidMetH prog Rows.walkAllsUptoRow.laid w)/\sizedMet enc prog Tryz.f6 (upS Rows.walkAllsSpec Rows.uptoSmall) false w args)
   (Rows.walkAllsSpec.post enc prog Tryz.f6 false true false false):=by
 refine ZoD (C:=Tryz.checked) (t:=4) Rows.walkAllsUptoRow.laid Ztg a (by kernel_rfl) func6
  (ZnW (enc:=enc) (C:=Tryz.checked) (os:=os) (X:=fun w _=>laidMetH prog Rows.walkAllsUptoRow.laid w) (accW os) #[.agg #[.slice none 0 0,.slice none 0 0,.slice none 0 0,.slice none 0 0],.string ByteArray.empty,.int .i64 0,.int .i64 0] 8 rfl (World.shaped_of_RefB (by kernel_rfl) (by kernel_rfl)) (by kernel_rfl) (by kernel_rfl) (by kernel_rfl) (ZA2 os _)) rfl rfl underlying4 af2 (by kernel_rfl) ?_ ?_
 ·intro c q
  obtain⟨s,e,rfl,i⟩:=Zaw (k:=3) q
  obtain⟨u,f,rfl,j⟩:=Zaw (k:=2) i
  obtain⟨v,g,rfl,l⟩:=Zaw (k:=1) j
  obtain⟨x,h,rfl,m⟩:=Zaw (k:=0) l
  obtain rfl:=List.eq_nil_of_length_eq_zero m
  rfl
 ·intro W base args c p b d o n r
  exact ZkM W base args c p (ZBM d o) (ZAC d) b n r
theorem ZuB:joinedFacts prog 6 Tryz.f6 (Rows.OpenSpec.upto Rows.walkAllsSpec).bare Rows.walkAllsUptoRow=true:=by
 unfold joinedFacts
 exact ZbY (ZbY (ZbY (ZbY (ZbY (ZbY (ZbY (ZbY (ZbY (ZbY (ZbY (ZbY (ZbY (ZbY (ZbY (ZbY (ZbY (ZbY (ZbY (ZbY (ZbY (ZbY (ZbY (ZbY (ZbY (ZbY (ZbY (ZbY (ZbY (ZbY (ZbY af1 af2) af3) (by kernel_rfl)) af5) (by kernel_rfl)) (by kernel_rfl)) (by kernel_rfl)) (by kernel_rfl)) af10) af11) af12) af13) (by kernel_rfl)) (by kernel_rfl)) (by kernel_rfl)) (by kernel_rfl)) (by kernel_rfl)) (by kernel_rfl)) (by kernel_rfl)) (by kernel_rfl)) (by kernel_rfl)) af23) (by kernel_rfl)) af25) af26) af27) af28) (by kernel_rfl)) (by kernel_rfl)) (by kernel_rfl)) (by kernel_rfl)
theorem walkAlls_row_holds:Rows.WalkAllsUptoSaid :=
 OpenClaim.holds_of_cond (s:=Rows.OpenSpec.upto Rows.walkAllsSpec) 6 Tryz.f6 rfl rfl rfl rfl rfl rfl rfl ⟨rfl,rfl,rfl,rfl,rfl⟩ rfl rfl rfl rfl rfl ZCa func6 ZuB
  ZAZ ZAX
  (fun os a H enc _ _=>ZhO os a H enc)
theorem walkAlls_holds:Rows.WalkAllsUptoCardSaid :=
 Claim7.holds_tied_plain_at .later [] [.data,.data,.data,.data,.sentinel,.sentinel,.data,.funcs,.funcs,.pinned] true (true, "c15faa29f47f312d0e243cd074e7801d46628aefb43134b5bf9f8ca659cde5db") true
  walkAlls_row_holds (fun _ h=>by cases h) ZD0 (fun _ h=>by cases h) walkAllsUpto_row_tie rfl ⟨rfl,rfl⟩ ZAY rfl
  (fun f fn e a=>by
   obtain rfl:f=6:=Option.some.inj (ZCa.symm.trans e) |>.symm
   obtain rfl:fn=Tryz.f6:=(Option.some.inj (func6.symm.trans a)).symm
   exact⟨Zxi,fun j t g=>by
    have b:Tryz.f6.params.toList.all (fun t => !prog.wantsStandIn t)=true:=by kernel_rfl
    have c:=List.all_eq_true.1 b t (by rw[Array.mem_toList_iff];exact Array.mem_of_getElem? g)
    have d:prog.wantsStandIn t=false:=by simpa using c
    exact d⟩)
  ZA0
