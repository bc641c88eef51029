/- Parts of the proof. -/
import Derived.Test.YtpipekfmecikmaaGreatDoorW26
import Derived.Test.YtpipekfmecikmaaGreatDoorW40
import Derived.Test.YtpipekfmecikmaaGreatDoorW09
import Derived.Test.YtpipekfmecikmaaGreatDoorW06
import Derived.Test.YtpipekfmecikmaaGreatDoorW16
import Derived.Test.YtpipekfmecikmaaGreatDoorW04
import Derived.LaidHandle
import Derived.LaidLaws
import Derived.LaidSub
import Derived.Stop.Joined
import Derived.LaidMore
import Derived.OpenShut
import Derived.ChangeArms
import Derived.Handed
set_option maxHeartbeats 4000000
set_option linter.unusedVariables false
set_option linter.unusedSimpArgs false
namespace Go.Proofs.YtpipekfmecikmaaGreatDoor
open Go Go.RowKit Go.Wk
attribute [local irreducible] W RL Does Zat Zaj retQ Calls Pu Stp RD Qy Ay Zak
def ZAb:ByteArray:=⟨#[69,117,114,111,112,101,47,67,111,114,107]⟩
def dubE:List DEra:=[Zbx,ZbL]
theorem Zfu:Za9 ZbA dubN=(((0:Nat):Int),0):=by decide +kernel
theorem ZiP:(Za9 ZbA ZAb).2=9:=by decide +kernel
theorem ZtZ:Zij ZbA.rules dubE 0=⟨3600,false,⟨#[73,83,84]⟩⟩:=by decide +kernel
theorem ZtY:Zij ZbA.rules dubE (-40000000)=⟨0,false,⟨#[71,77,84]⟩⟩:=by decide +kernel
theorem ZtX:Zij ZbA.rules dubE 57722400=⟨0,true,⟨#[71,77,84]⟩⟩:=by decide +kernel
theorem ZtW:Zij ZbA.rules dubE 57722399=⟨3600,false,⟨#[73,83,84]⟩⟩:=by decide +kernel
theorem ZwW:Zes Zbx (ZaZ ZbA.rules Zbx 0)=⟨0,false,⟨#[71,77,84]⟩⟩:=by decide +kernel
theorem ZwX:Zfa ZbA.rules dubE 0=1:=by decide +kernel
theorem ZtU:(ZkN ZbA.rules dubE).isSome=true:=by decide +kernel
theorem Zqa:ZaD Zbx.til (Go.Wk.bsE Zbx [])=0/\Ze8 (endB Zbx [])=true:=by decide +kernel
def EiSt (e:DEra)(x:Int × ByteArray):Prop:=((-1000000000<=x.1/\x.1<=1000000000)/\x.2.size<=1000000000)/\abE e x=0
theorem Zld:EiSt Zbx (0,ByteArray.empty)/\EiSt ZbL (0,ByteArray.empty)/\∀ r∈ofB ZbA.rules ZbL.set,EiSt ZbL (r.save,r.letter):=by
 unfold EiSt
 decide +kernel
theorem Zhw:(∀ r∈ofB ZbA.rules ZbL.set,(-1000000000<=r.save/\r.save<=1000000000)/\r.from_<=4611686018427387904/\-4611686018427387904<=r.to)/\(ofB ZbA.rules ZbL.set).length<=1000000:=by decide +kernel
theorem ZiO:MnOk ZbA:=by
 have d:∀ z∈ZbA.zones,z.eras=dubE:=fun z d=>by rw[List.mem_singleton.1 d];rfl
 have f:∀ e∈dubE,e=Zbx\/e=ZbL:=fun e f=>by simpa[dubE] using f
 refine⟨ZwV,fun z a k e g l=>?_,fun z a=>by rw[d z a];decide,fun z a=>?_,fun z a e b=>?_,fun z a e b t=>?_⟩
 ·rw[d z a]at g l
  have i:k=0:=by simp only[dubE,List.length_cons,List.length_nil]at l;omega
  subst i
  simp only[dubE,List.getElem?_cons_zero,Option.some.injEq]at g
  subst g
  exact⟨⟨by decide,(fun r c=>by cases c),(fun r c=>by cases c),(fun r c=>by cases c)⟩,by decide,by decide,by decide,Zqa.1,Zqa.2⟩
 ·rw[d z a]
  exact Option.isSome_iff_exists.1 ZtU
 ·rw[d z a]at b
  rcases f e b with rfl|rfl
  ·exact⟨by decide,by decide,by decide,(fun h=>by cases h),by decide⟩
  ·exact⟨by decide,by decide,by decide,fun _=>⟨Zhw.2,fun r c=>(Zhw.1 r c).1,fun r c=>(Zhw.1 r c).2.1,fun r c=>(Zhw.1 r c).2.2⟩,by decide⟩
 ·rw[d z a]at b
  have j:EiSt e (ZaZ ZbA.rules e t):=by
   rcases f e b with rfl|rfl
   ·exact ZpM (P:=EiSt Zbx) Zld.1 (fun h=>by cases h) (fun h=>absurd rfl h) t
   ·exact ZpM (P:=EiSt ZbL) Zld.2.1 (fun h=>by cases h) (fun _ _=>Zld.2.2) t
  exact⟨j.1.1,j.1.2,j.2⟩
section
variable (br bz:Nat)(t:Int)(w:World)(hL:LibW w)(hG:Glob w)(hM:MeG w)(hA:Zal w (some ⟨br,0,none⟩) (some ⟨bz,0,none⟩) none none 3 1 0 0 ZbA)
include hL hG hM hA
theorem Zt0 (a:tOk t=true):Does Tryz.prog 15 [srcV (some ⟨br,0,none⟩) (some ⟨bz,0,none⟩) none none 3 1 0 0 ZbA,.string dubN,.int .i64 t] w (fun v O=>v = .tuple #[.agg (Zij ZbA.rules dubE t).enc.toArray,.int .i64 0]/\O=[]) :=
 mAt _ _ _ _ _ _ _ _ ZbA dubN t w (Zxb hL hG (Zln w) (show okD ZbA=true by decide +kernel) hA) hM (by decide) ZiO a (i:=0) (z:=⟨dubN,dubE⟩) Zfu rfl
omit hM in
theorem Zr0:Does Tryz.prog 17 [srcV (some ⟨br,0,none⟩) (some ⟨bz,0,none⟩) none none 3 1 0 0 ZbA,.string dubN,.int .i64 0] w (fun v O=>v = .tuple #[.int .i64 1,.int .i64 0]/\O=[]):=by
 have:=mEra _ _ _ _ _ _ _ _ ZbA dubN 0 w (Zxb hL hG (Zln w) (show okD ZbA=true by decide +kernel) hA) (by decide) ZiO (by decide) (i:=0) (z:=⟨dubN,dubE⟩) Zfu rfl
 rwa[show Zfa ZbA.rules (DZone.mk dubN dubE).eras 0=1 from ZwX]at this
theorem Zm1:Does Tryz.prog 19 [srcV (some ⟨br,0,none⟩) (some ⟨bz,0,none⟩) none none 3 1 0 0 ZbA,.string dubN] w (fun v O=>v = .tuple #[.agg #[.int .i64 0,.bool false,.string ⟨#[71,77,84]⟩],.int .i64 0]/\O=[]):=by
 have:=Zxy _ _ _ _ _ _ _ _ ZbA dubN w (Zxb hL hG (Zln w) (show okD ZbA=true by decide +kernel) hA) hM (by decide) ZiO (i:=0) (z:=⟨dubN,dubE⟩) Zfu rfl (e:=Zbx) rfl
 rwa[ZwW]at this
omit hM in
theorem ZtV:Does Tryz.prog 15 [srcV (some ⟨br,0,none⟩) (some ⟨bz,0,none⟩) none none 3 1 0 0 ZbA,.string ZAb,.int .i64 0] w (fun v O=>v = .tuple #[.agg #[.int .i64 0,.bool false,.string ByteArray.empty],.int .i64 9]/\O=[]):=by
 have:=ZAY _ _ _ _ _ _ _ _ ZbA ZAb 0 w (Zxb hL hG (Zln w) (show okD ZbA=true by decide +kernel) hA) (by decide) (by decide) (by rw[ZiP];decide)
 rwa[ZiP]at this
end
theorem ZrZ (a bz:Nat)(w:World):Does Tryz.prog 15 [srcV (some ⟨a,0,none⟩) (some ⟨bz,0,none⟩) none none 3 1 0 0 ZbA,.string dubN,.int .i64 36028797018963969] w (fun v O=>v = .tuple #[.agg #[.int .i64 0,.bool false,.string ByteArray.empty],.int .i64 3]/\O=[]) :=
 Zxz _ _ _ _ _ _ _ _ ZbA dubN 36028797018963969 w (by decide)
theorem Zav (f t m k c dd b a:Int)(w:World):Does Tryz.prog 96 [.int .i64 f,.int .i64 t,.int .i64 m,.agg #[.int .i64 k,.int .i64 c,.int .i64 dd],.int .i64 b,.int .i64 a] w (fun v O=>v = .agg #[.string Zz8,.int .i64 f,.int .i64 t,.int .i64 m,.int .i64 k,.int .i64 c,.int .i64 dd,.int .i64 b,.int .i64 2,.int .i64 a,.string ByteArray.empty]/\O=[]):=by
 refine Zaa Tryz.func96 rfl rfl rfl rfl ?_
 repeat (first|(refine js ?_;(refine bx ?_;intro d))|refine walk ?_)
 exact ret_1 _ [] (.cellB rfl (by repeat' constructor) rfl rfl) .nil ⟨rfl,rfl⟩
theorem ZiN (w:World):Does Tryz.prog 49 [] w ZCv:=by
 refine Zaa Tryz.func49 rfl rfl rfl rfl ?_
 repeat' (first|(refine js ?_;(first|(apply Zar (f:=96) (us:=[]) (cs:=[]) (vs:=[.int .i64 1971,.int .i64 1971,.int .i64 10,.agg #[.int .i64 1,.int .i64 0,.int .i64 31],.int .i64 7200,.int .i64 (-3600)]) (h:=fun w' _ _=>Zav 1971 1971 10 1 0 31 7200 (-3600) w');rfl;rfl;rintro v O' ⟨rfl,rfl⟩)|(apply Zar (f:=96) (us:=[]) (cs:=[]) (vs:=[.int .i64 1972,.int .i64 1048576,.int .i64 3,.agg #[.int .i64 3,.int .i64 0,.int .i64 15],.int .i64 7200,.int .i64 0]) (h:=fun w' _ _=>Zav 1972 1048576 3 3 0 15 7200 0 w');rfl;rfl;rintro v O' ⟨rfl,rfl⟩)|(apply Zar (f:=96) (us:=[]) (cs:=[]) (vs:=[.int .i64 1972,.int .i64 1048576,.int .i64 10,.agg #[.int .i64 2,.int .i64 0,.int .i64 0],.int .i64 3600,.int .i64 (-3600)]) (h:=fun w' _ _=>Zav 1972 1048576 10 2 0 0 3600 (-3600) w');rfl;rfl;rintro v O' ⟨rfl,rfl⟩)|(refine bx ?_;intro c)))|refine walk ?_|(refine Zdc ?_;intro F;(first|(apply Zar (f:=96) (us:=[]) (cs:=[]) (vs:=[.int .i64 1971,.int .i64 1971,.int .i64 10,.agg #[.int .i64 1,.int .i64 0,.int .i64 31],.int .i64 7200,.int .i64 (-3600)]) (h:=fun w' _ _=>Zav 1971 1971 10 1 0 31 7200 (-3600) w');rfl;rfl;rintro v O' ⟨rfl,rfl⟩)|(apply Zar (f:=96) (us:=[]) (cs:=[]) (vs:=[.int .i64 1972,.int .i64 1048576,.int .i64 3,.agg #[.int .i64 3,.int .i64 0,.int .i64 15],.int .i64 7200,.int .i64 0]) (h:=fun w' _ _=>Zav 1972 1048576 3 3 0 15 7200 0 w');rfl;rfl;rintro v O' ⟨rfl,rfl⟩)|(apply Zar (f:=96) (us:=[]) (cs:=[]) (vs:=[.int .i64 1972,.int .i64 1048576,.int .i64 10,.agg #[.int .i64 2,.int .i64 0,.int .i64 0],.int .i64 3600,.int .i64 (-3600)]) (h:=fun w' _ _=>Zav 1972 1048576 10 2 0 0 3600 (-3600) w');rfl;rfl;rintro v O' ⟨rfl,rfl⟩));refine⟨_,EndsA,SubO.right _ _,?_⟩)|(refine ZBC (fun c=>?_) ?_;rotate_left;intro F;(first|(apply Zar (f:=96) (us:=[]) (cs:=[]) (vs:=[.int .i64 1971,.int .i64 1971,.int .i64 10,.agg #[.int .i64 1,.int .i64 0,.int .i64 31],.int .i64 7200,.int .i64 (-3600)]) (h:=fun w' _ _=>Zav 1971 1971 10 1 0 31 7200 (-3600) w');rfl;rfl;rintro v O' ⟨rfl,rfl⟩)|(apply Zar (f:=96) (us:=[]) (cs:=[]) (vs:=[.int .i64 1972,.int .i64 1048576,.int .i64 3,.agg #[.int .i64 3,.int .i64 0,.int .i64 15],.int .i64 7200,.int .i64 0]) (h:=fun w' _ _=>Zav 1972 1048576 3 3 0 15 7200 0 w');rfl;rfl;rintro v O' ⟨rfl,rfl⟩)|(apply Zar (f:=96) (us:=[]) (cs:=[]) (vs:=[.int .i64 1972,.int .i64 1048576,.int .i64 10,.agg #[.int .i64 2,.int .i64 0,.int .i64 0],.int .i64 3600,.int .i64 (-3600)]) (h:=fun w' _ _=>Zav 1972 1048576 10 2 0 0 3600 (-3600) w');rfl;rfl;rintro v O' ⟨rfl,rfl⟩));refine⟨_,EndsA,SubO.right _ _,?_⟩)|(refine ZBB (fun c=>?_) (fun c=>?_) ?_;rotate_left 2;intro F;(first|(apply Zar (f:=96) (us:=[]) (cs:=[]) (vs:=[.int .i64 1971,.int .i64 1971,.int .i64 10,.agg #[.int .i64 1,.int .i64 0,.int .i64 31],.int .i64 7200,.int .i64 (-3600)]) (h:=fun w' _ _=>Zav 1971 1971 10 1 0 31 7200 (-3600) w');rfl;rfl;rintro v O' ⟨rfl,rfl⟩)|(apply Zar (f:=96) (us:=[]) (cs:=[]) (vs:=[.int .i64 1972,.int .i64 1048576,.int .i64 3,.agg #[.int .i64 3,.int .i64 0,.int .i64 15],.int .i64 7200,.int .i64 0]) (h:=fun w' _ _=>Zav 1972 1048576 3 3 0 15 7200 0 w');rfl;rfl;rintro v O' ⟨rfl,rfl⟩)|(apply Zar (f:=96) (us:=[]) (cs:=[]) (vs:=[.int .i64 1972,.int .i64 1048576,.int .i64 10,.agg #[.int .i64 2,.int .i64 0,.int .i64 0],.int .i64 3600,.int .i64 (-3600)]) (h:=fun w' _ _=>Zav 1972 1048576 10 2 0 0 3600 (-3600) w');rfl;rfl;rintro v O' ⟨rfl,rfl⟩));refine⟨_,EndsA,SubO.right _ _,?_⟩)|(refine RD_Lw ?_;intro F;(first|(apply Zar (f:=96) (us:=[]) (cs:=[]) (vs:=[.int .i64 1971,.int .i64 1971,.int .i64 10,.agg #[.int .i64 1,.int .i64 0,.int .i64 31],.int .i64 7200,.int .i64 (-3600)]) (h:=fun w' _ _=>Zav 1971 1971 10 1 0 31 7200 (-3600) w');rfl;rfl;rintro v O' ⟨rfl,rfl⟩)|(apply Zar (f:=96) (us:=[]) (cs:=[]) (vs:=[.int .i64 1972,.int .i64 1048576,.int .i64 3,.agg #[.int .i64 3,.int .i64 0,.int .i64 15],.int .i64 7200,.int .i64 0]) (h:=fun w' _ _=>Zav 1972 1048576 3 3 0 15 7200 0 w');rfl;rfl;rintro v O' ⟨rfl,rfl⟩)|(apply Zar (f:=96) (us:=[]) (cs:=[]) (vs:=[.int .i64 1972,.int .i64 1048576,.int .i64 10,.agg #[.int .i64 2,.int .i64 0,.int .i64 0],.int .i64 3600,.int .i64 (-3600)]) (h:=fun w' _ _=>Zav 1972 1048576 10 2 0 0 3600 (-3600) w');rfl;rfl;rintro v O' ⟨rfl,rfl⟩)|(refine bx ?_;intro c)|(refine stA ?_)|(apply Zad;exact PuA));refine⟨_,EndsA,QFA,?_⟩)|(refine ZBA (fun c=>?_) ?_;rotate_left;intro F;(first|(apply Zar (f:=96) (us:=[]) (cs:=[]) (vs:=[.int .i64 1971,.int .i64 1971,.int .i64 10,.agg #[.int .i64 1,.int .i64 0,.int .i64 31],.int .i64 7200,.int .i64 (-3600)]) (h:=fun w' _ _=>Zav 1971 1971 10 1 0 31 7200 (-3600) w');rfl;rfl;rintro v O' ⟨rfl,rfl⟩)|(apply Zar (f:=96) (us:=[]) (cs:=[]) (vs:=[.int .i64 1972,.int .i64 1048576,.int .i64 3,.agg #[.int .i64 3,.int .i64 0,.int .i64 15],.int .i64 7200,.int .i64 0]) (h:=fun w' _ _=>Zav 1972 1048576 3 3 0 15 7200 0 w');rfl;rfl;rintro v O' ⟨rfl,rfl⟩)|(apply Zar (f:=96) (us:=[]) (cs:=[]) (vs:=[.int .i64 1972,.int .i64 1048576,.int .i64 10,.agg #[.int .i64 2,.int .i64 0,.int .i64 0],.int .i64 3600,.int .i64 (-3600)]) (h:=fun w' _ _=>Zav 1972 1048576 10 2 0 0 3600 (-3600) w');rfl;rfl;rintro v O' ⟨rfl,rfl⟩)|(refine bx ?_;intro c)|(refine stA ?_)|(apply Zad;exact PuA));refine⟨_,EndsA,QFA,?_⟩)|(refine ZBz (fun c=>?_) (fun c=>?_) ?_;rotate_left 2;intro F;(first|(apply Zar (f:=96) (us:=[]) (cs:=[]) (vs:=[.int .i64 1971,.int .i64 1971,.int .i64 10,.agg #[.int .i64 1,.int .i64 0,.int .i64 31],.int .i64 7200,.int .i64 (-3600)]) (h:=fun w' _ _=>Zav 1971 1971 10 1 0 31 7200 (-3600) w');rfl;rfl;rintro v O' ⟨rfl,rfl⟩)|(apply Zar (f:=96) (us:=[]) (cs:=[]) (vs:=[.int .i64 1972,.int .i64 1048576,.int .i64 3,.agg #[.int .i64 3,.int .i64 0,.int .i64 15],.int .i64 7200,.int .i64 0]) (h:=fun w' _ _=>Zav 1972 1048576 3 3 0 15 7200 0 w');rfl;rfl;rintro v O' ⟨rfl,rfl⟩)|(apply Zar (f:=96) (us:=[]) (cs:=[]) (vs:=[.int .i64 1972,.int .i64 1048576,.int .i64 10,.agg #[.int .i64 2,.int .i64 0,.int .i64 0],.int .i64 3600,.int .i64 (-3600)]) (h:=fun w' _ _=>Zav 1972 1048576 10 2 0 0 3600 (-3600) w');rfl;rfl;rintro v O' ⟨rfl,rfl⟩)|(refine bx ?_;intro c)|(refine stA ?_)|(apply Zad;exact PuA));refine⟨_,EndsA,QFA,?_⟩)|(apply RD_W;rfl;intro c)|(refine ZCs rfl rfl rfl (fun c=>?_) (fun c=>?_))|(refine Zaf rfl (fun e=>?_) (fun e=>?_)))
 all_goals exact ret_1 _ [.blk _ [.string dubN,.slice (some ⟨_,0,none⟩) 2 2] 71,.blk _ (Zbx.enc++ZbL.enc) 75,.blk _ (ZhG.enc++(ZhI.enc++ZhH.enc)) 68] (.cellB rfl (by repeat' constructor) rfl rfl) SOA ⟨_,_,_,rfl,rfl⟩
theorem ZfR (t b:Int)(a:Bool)(abbr:ByteArray)(w:World)(q:LibW w)(p:Glob w)(r:MeG w)(u:tOk t=true)(s:Zij ZbA.rules dubE t=⟨b,a,abbr⟩):Does Tryz.prog 50 [.int .i64 t,.int .i64 b,.bool a,.string abbr] w (fun v O=>v = .bool true/\O=[]):=by
 have f:=fun(d bz:Nat) w' (c:Bel w.heap.size w w') m=>Zt0 d bz t w' (q.up c) (p.up c) (r.up c) m u
 rw[s]at f
 simp only[Zbe.enc]at f
 refine Zaa Tryz.func50 rfl rfl rfl rfl ?_
 repeat (first|(apply RL_pu;rfl;(first|(apply Zly (i:=(⟨b,a,abbr⟩:Zbe)) (j:=⟨b,a,abbr⟩) (enc:=Zbe.enc);rfl;rfl;exact decide_eq_true rfl)|(apply Zap;rfl;rfl;exact decide_eq_true rfl)))|(refine js ?_;(first|(apply Zae (h:=fun w' _ _=>ZiN w');rfl;rintro v O' ⟨d,g,bz,rfl,rfl⟩)|(refine ZaH (fun w' c e=>f d bz w' c (Zv8 (Zk1 (l:=[ZhG,ZhI,ZhH]) DRule.len (Nat.le_refl 3) (by decide) (e.of (A := .blk d _ _) (by repeat' constructor))) (e.of (A := .blk bz _ _) (by repeat' constructor)) (Zk1 (l:=[Zbx,ZbL]) DEra.len (Nat.le_refl 2) (by decide) (e.of (A := .blk g _ _) (by repeat' constructor))))) ?_)|(refine bx ?_;intro x)))|refine walk1 ?_)
 exact rtA
set_option maxHeartbeats 4000000 in
theorem ZlN (w:World)(e:LibW w)(d:Glob w)(g:MeG w):Does Tryz.prog 13 [] w (fun v O=>v = .bool true/\O=[]):=by
 have p:=fun(c bz:Nat) w' (a:Bel w.heap.size w w') f=>Zr0 c bz w' (e.up a) (d.up a) f
 have q:=fun(c bz:Nat) w' (a:Bel w.heap.size w w') f=>Zm1 c bz w' (e.up a) (d.up a) (g.up a) f
 have r:=fun(c bz:Nat) w' (a:Bel w.heap.size w w') f=>ZtV c bz w' (e.up a) (d.up a) f
 have s:=fun w' (a:Bel w.heap.size w w')=>ZfR 0 _ _ _ w' (e.up a) (d.up a) (g.up a) (by decide) ZtZ
 have i2:=fun w' (a:Bel w.heap.size w w')=>ZfR (-40000000) _ _ _ w' (e.up a) (d.up a) (g.up a) (by decide) ZtY
 have i3:=fun w' (a:Bel w.heap.size w w')=>ZfR 57722400 _ _ _ w' (e.up a) (d.up a) (g.up a) (by decide) ZtX
 have i4:=fun w' (a:Bel w.heap.size w w')=>ZfR 57722399 _ _ _ w' (e.up a) (d.up a) (g.up a) (by decide) ZtW
 refine Zaa Tryz.func13 rfl rfl rfl rfl ?_
 repeat (first|refine und ?_|(apply RL_pu;rfl;(first|(apply Zly (i:=(⟨0,false,⟨#[71,77,84]⟩⟩:Zbe)) (j:=⟨0,false,⟨#[71,77,84]⟩⟩) (enc:=Zbe.enc);rfl;rfl;exact decide_eq_true rfl)|(apply Zap;rfl;rfl;exact decide_eq_true rfl)))|(refine js ?_;(first|(apply Zae (h:=fun w' _ _=>ZiN w');rfl;rintro v O' ⟨c,m,bz,rfl,rfl⟩)|(refine ZaH (fun w' a b=>p c bz w' a (Zv8 (Zk1 (l:=[ZhG,ZhI,ZhH]) DRule.len (Nat.le_refl 3) (by decide) (b.of (A := .blk c _ _) (by repeat' constructor))) (b.of (A := .blk bz _ _) (by repeat' constructor)) (Zk1 (l:=[Zbx,ZbL]) DEra.len (Nat.le_refl 2) (by decide) (b.of (A := .blk m _ _) (by repeat' constructor))))) ?_)|(refine ZaH (fun w' a b=>q c bz w' a (Zv8 (Zk1 (l:=[ZhG,ZhI,ZhH]) DRule.len (Nat.le_refl 3) (by decide) (b.of (A := .blk c _ _) (by repeat' constructor))) (b.of (A := .blk bz _ _) (by repeat' constructor)) (Zk1 (l:=[Zbx,ZbL]) DEra.len (Nat.le_refl 2) (by decide) (b.of (A := .blk m _ _) (by repeat' constructor))))) ?_)|(refine ZaH (fun w' a b=>r c bz w' a (Zv8 (Zk1 (l:=[ZhG,ZhI,ZhH]) DRule.len (Nat.le_refl 3) (by decide) (b.of (A := .blk c _ _) (by repeat' constructor))) (b.of (A := .blk bz _ _) (by repeat' constructor)) (Zk1 (l:=[Zbx,ZbL]) DEra.len (Nat.le_refl 2) (by decide) (b.of (A := .blk m _ _) (by repeat' constructor))))) ?_)|(refine ZaH (fun w' a b=>ZrZ c bz w') ?_)|(refine ZaH (fun w' a b=>s w' a) ?_)|(refine ZaH (fun w' a b=>i2 w' a) ?_)|(refine ZaH (fun w' a b=>i3 w' a) ?_)|(refine ZaH (fun w' a b=>i4 w' a) ?_)|(refine bx ?_;intro t)))|refine walk1 ?_)
 exact rtA
theorem ZvC {G:Prop}(h:G:=by(apply Zay;rfl;rfl;first|exact b1|exact b2)):G:=h
set_option maxHeartbeats 4000000 in
theorem Zgt (Ar Az Al As:Option Addr)(g m f cs:Nat)(a:DSource)(c:ByteArray)(t:Int)(w:World)(T:LibW w)(S:Glob w)(L:MeG w)(u:Zal w Ar Az Al As g m f cs a)(R:a.ok) :
  Does Tryz.prog 4 [srcV Ar Az Al As g m f cs a,.string c,.int .i64 t] w (fun v O=>v = .bool true/\O=[]):=by
 have p:=fun w' (d:Bel w.heap.size w w')=>ZwS Ar Az Al As g m f cs a w' (u.up d)
 have q:=fun w' (d:Bel w.heap.size w w')=>ZlN w' (T.up d) (S.up d) (L.up d)
 have hle:=u.r.le
 have N:=u.r.cap
 simp only[maxLen]at N
 obtain⟨b,y⟩:∃ b,fewB a=b:=⟨_,rfl⟩
 rw[y]at p
 cases b with
 | false =>
  refine Zaa Tryz.func4 rfl rfl rfl rfl ?_
  repeat (first|refine und ?_|(refine js ?_;(first|(refine Zab p ?_)|(refine Zab q ?_)|(refine bx ?_;intro K)))|refine walk ?_)
  exact rtA
 | true =>
  have e:=ZtR T S u R y
  have x:=ZiI y
  have Q:a.zones.length+a.links.length<=1000000:=by
   unfold fewB at y
   simp only[Bool.and_eq_true,decide_eq_true_eq]at y
   omega
  have C:=fun w' (d:Bel w.heap.size w w')=>Zt4 Ar Az Al As g m f cs a w' (u.up d) ⟨x.nr,x.nz,x.nl,(by unfold fewB at y;simp only[Bool.and_eq_true,decide_eq_true_eq]at y;omega),fun z hz=>(x.zs z hz).2.1⟩
  have D:=fun R1 Z1 L1 H1 I J H F w' (d:Bel w.heap.size w w') hB=>ZsS Ar Az Al As g m f cs a R1 Z1 L1 H1 I J H F a w' (u.up d) hB
  have k1:=fun w' (d:Bel w.heap.size w w')=>ZzV Ar Az Al As g m f cs a c t w' (e.up d) (L.up d) Q
  have k2:=fun w' (d:Bel w.heap.size w w')=>Zrx Ar Az Al As g m f cs a c t w' (e.up d)
  have k3:=fun w' (d:Bel w.heap.size w w')=>ZwE Ar Az Al As g m f cs a c t w' (e.up d) Q
  have k4:=fun w' (d:Bel w.heap.size w w')=>Zh3 Ar Az Al As g m f cs a c t w' (e.up d)
  have U:=fun w' (d:Bel w.heap.size w w')=>ZrJ Ar Az Al As g m f cs a c w' (e.up d) (L.up d) Q
  have V:=fun w' (d:Bel w.heap.size w w')=>ZkR Ar Az Al As g m f cs a c w' (e.up d)
  rw[decide_eq_true rfl]at D
  clear y e x
  generalize atR a c t=X at *
  generalize erR a c t=E at *
  generalize fsR a c=Y at *
  obtain⟨⟨W,Z,x3⟩,e1⟩:=X
  obtain⟨⟨y1,y2,y3⟩,e2⟩:=Y
  obtain⟨e3,e4⟩:=E
  simp only[Zbe.enc]at k1 k2 U V
  unfold Zv7 at C
  refine Zaa Tryz.func4 rfl rfl rfl rfl ?_
  by_cases h10:10<a.rules.length
  ·have b1:decide ((10:Int)<(a.rules.length:Int))=true:=decide_eq_true (by omega)
   have b2:=b1
   repeat (first|refine und ?_|(apply RL_pu;rfl;exact ZvC)|(refine js ?_;(first|(refine Zab p ?_)|(refine Zab q ?_)|(refine bx ?_;intro K)))|refine walk1 ?_)
   exact rtA
  have b1:decide ((10:Int)<(a.rules.length:Int))=false:=decide_eq_false (by omega)
  by_cases s:100<(c.size:Int)
  ·have b2:decide ((100:Int)<(c.size:Int))=true:=decide_eq_true s
   repeat (first|refine und ?_|(apply RL_pu;rfl;exact ZvC)|(refine js ?_;(first|(refine Zab p ?_)|(refine Zab q ?_)|(refine bx ?_;intro K)))|refine walk1 ?_)
   exact rtA
  ·have b2:decide ((100:Int)<(c.size:Int))=false:=decide_eq_false s
   repeat (first|refine und ?_|(apply RL_pu;rfl;(first|(apply Zly (i:=(⟨W,Z,x3⟩:Zbe)) (j:=⟨W,Z,x3⟩) (enc:=Zbe.enc);rfl;rfl;exact decide_eq_true rfl)|(apply Zly (i:=(⟨y1,y2,y3⟩:Zbe)) (j:=⟨y1,y2,y3⟩) (enc:=Zbe.enc);rfl;rfl;exact decide_eq_true rfl)|(apply Zap;rfl;rfl;exact decide_eq_true rfl)|(apply Zay;rfl;rfl;first|exact b1|exact b2)))|(refine js ?_;(first|(refine Zab p ?_)|(apply Zae (h:=fun w' d _=>C w' d);rfl;rintro v O' ⟨R1,I,Z1,J,L1,H,H1,F,Zs1,S1,rfl,M,rfl⟩)|(refine ZaH (fun w' d B=>D R1 Z1 L1 H1 I J H F w' d (ZAO M (B.of (A:=rowR R1 I _) (by repeat' constructor)) (B.of (A:=rowZ Z1 J _) (by repeat' constructor)) (B.of (A:=rowL L1 H _) (by repeat' constructor)) (B.of (A:=rowS H1 F _) (by repeat' constructor)) (B.of (A := .fact S1 (ZnQ Zs1)) (by repeat' constructor)))) ?_)|(refine Zab k1 ?_)|(refine Zab k2 ?_)|(refine Zab k3 ?_)|(refine Zab k4 ?_)|(refine Zab U ?_)|(refine Zab V ?_)|(refine Zab q ?_)|(refine bx ?_;intro K)))|refine walk1 ?_)
   exact rtA
end Go.Proofs.YtpipekfmecikmaaGreatDoor
namespace Go.Proofs.YtpipekfmecikmaaGreatDoor
open Go Go.RowKit Go.Wk Go.ChangeShapes Go.WideShapes Go.ChangeAt
section
variable {H:Type}{enc:TypeId × Value->H}{w:World}{sp:Nat->Bool}{held:Bool}
set_option maxRecDepth 100000 in
theorem Zwx {v:Value}{r:Reach}{a:Nat}{d:DataW H}{c:List MemPlace}(b:Value.okWide Tryz.prog w r a 2 v)(_:DataW.Trod enc Tryz.prog w 0 sp held 2 v d c):∃ x:Int,v = .int .i64 x:=by
 obtain⟨n,rfl⟩:=okWide_int Tryz.underlying2 b
 exact⟨n,rfl⟩
set_option maxRecDepth 100000 in
theorem Zww {v:Value}{r:Reach}{a:Nat}{d:DataW H}{c:List MemPlace}(b:Value.okWide Tryz.prog w r a 9 v)(_:DataW.Trod enc Tryz.prog w 0 sp held 9 v d c):∃ x:ByteArray,v = .string x:=by
 obtain⟨s,rfl⟩:=okWide_string Tryz.underlying9 b
 exact⟨s,rfl⟩
end
end Go.Proofs.YtpipekfmecikmaaGreatDoor
namespace Go.Wk
open Go Go.RowKit Go.ChangeShapes Go.WideShapes Go.ChangeAt
section
variable {H:Type}{enc:TypeId × Value->H}
def Zw3:DataW Unit->List Value
 | .agg l=>l.map fun | .lit (.int k n) => .int k n|_=>undef
 | .lit (.int k n)=>[.int k n]
 | _=>[]
end
def ZzD (P:Program)(tb:List (String × FuncId))(tok:List UInt8):Option FuncId :=
 if tok=[] then none else (tb.find? fun x=>x.1.toUTF8.data.toList==tok&&P.funcNamed x.1==some x.2).map (·.2)
section
variable {H:Type}
def Ziw (P:Program)(tok:H->Option FuncId):Nat->TypeId->DataW H->Nat->Option Value
 | 0,_,_,_=>none
 | f+1,t,d,j =>
  match P.underlying t,d with
  | some .bool,.lit (.bool b)=>if j=0 then some (.bool b) else none
  | some (.int k),.lit (.int _ n)=>if j=0 then some (.int k n) else none
  | some .string,.lit (.string l)=>if j=0 then some (.string ⟨l.toArray⟩) else none
  | some (.func ..),.nil=>if j=0 then some .nilFunc else none
  | some (.func ..),.held x=>if j=0 then (tok x).map fun g => .func (.func g) #[] #[] else none
  | some (.array n e),.agg ds=>if j / P.cellsOf e<n then (match ds[j / P.cellsOf e]? with|some d'=>Ziw P tok f e d' (j % P.cellsOf e)|none=>none) else none
  | some (.struct fs),.agg ds =>
   match (List.range fs.size).find? fun i=>match fs[i]? with|some x=>decide (x.offset<=j)&&decide (j<x.offset+P.cellsOf x.type)|none=>false with
   | some i=>(match fs[i]?,ds[i]? with|some x,some d'=>Ziw P tok f x.type d' (j - x.offset)|_,_=>none)
   | none=>none
  | _,_=>none
end
theorem ZnY {P:Program}{c:List (String × FuncId)}{l:List UInt8}{g:FuncId}{t:TypeId}{v:Value}(h:ZzD P c l=some g)(j:funcToken P (t,v)=l):v = .func (.func g) #[] #[]:=by
 unfold ZzD at h
 cases l with
 | nil=>rw[if_pos rfl]at h;cases h
 | cons b r =>
  obtain⟨f,fn,rfl,k,d,e⟩:=funcToken_tells j
  rw[if_neg (by simp)]at h
  cases hx:c.find? (fun x=>x.1.toUTF8.data.toList==b::r&&P.funcNamed x.1==some x.2) with
  | none=>rw[hx]at h;cases h
  | some x =>
   rw[hx]at h
   have a:=List.find?_some hx
   simp only[Bool.and_eq_true,beq_iff_eq]at a
   have i:x.1=fn.name:=by
    have:x.1.toUTF8=fn.name.toUTF8:=by
     apply ByteArray.ext
     apply Array.ext'
     rw[a.1,e]
    exact String.toByteArray_inj.1 this
   rw[i,d]at a
   have:=a.2
   simp only[Option.map_some,Option.some.injEq]at h this
   rw[this,h]
theorem Zml {cs:List Value}{o c j:Nat}{v:Value}(h:((cs.drop o).take c)[j]?=some v):cs[o+j]?=some v:=by
 rw[List.getElem?_take]at h
 split at h
 ·rwa[List.getElem?_drop]at h
 ·cases h
theorem Ziv {H:Type}{enc:TypeId × Value->H}{q:H->Option FuncId}{P:Program}{w:World}{r:Nat}{J:Nat->Bool}{held:Bool}(l:∀ t v g,q (enc (t,v))=some g->v = .func (.func g) #[] #[]):∀ (f:Nat) (t:TypeId) (d:DataW H) (j:Nat) (v:Value) (fuel:Nat) (cs:List Value) (p:List MemPlace),Ziw P q f t d j=some v ->
  DataW.trod enc P w r J held fuel t cs=some (d,p)->cs[j]?=some v
 | 0,_,_,_,_,_,_,_,h,_=>by cases h
 | f+1,t,d,j,v,fuel,cs,p,h,ht=>by
  unfold Ziw at h
  split at h
  ·rename_i c
   obtain⟨L,rfl,a⟩:=DataW.trod_bool c ht
   simp only[Prod.mk.injEq,DataW.lit.injEq,Lit.bool.injEq]at a
   split at h
   ·rename_i k
    subst k
    simp only[Option.some.injEq]at h
    rw[<- h,a.1];rfl
   ·cases h
  ·rename_i c
   obtain⟨N,rfl,a,_⟩:=DataW.trod_int c ht
   simp only[Prod.mk.injEq,DataW.lit.injEq,Lit.int.injEq]at a
   split at h
   ·rename_i k
    subst k
    simp only[Option.some.injEq]at h
    rw[<- h,a.1.2];rfl
   ·cases h
  ·rename_i c
   obtain⟨s,rfl,a,_⟩:=DataW.trod_string c ht
   simp only[Prod.mk.injEq,DataW.lit.injEq,Lit.string.injEq]at a
   split at h
   ·rename_i k
    subst k
    simp only[Option.some.injEq]at h
    rw[<- h,a.1];simp
   ·cases h
  ·rename_i c
   split at h
   ·rename_i k
    subst k
    cases fuel with
    | zero=>simp[DataW.trod]at ht
    | succ n =>
     unfold DataW.trod at ht
     rw[c]at ht
     simp only[Option.some.injEq]at h
     subst h
     split at ht <;> simp_all
   ·cases h
  ·rename_i c
   split at h
   ·rename_i k
    subst k
    cases fuel with
    | zero=>simp[DataW.trod]at ht
    | succ n =>
     unfold DataW.trod at ht
     rw[c]at ht
     rename_i K
     cases hk:q K with
     | none=>rw[hk]at h;cases h
     | some g =>
      rw[hk]at h
      simp only[Option.map_some,Option.some.injEq]at h
      subst h
      split at ht <;> first|(exfalso;simp_all;done)|skip
      all_goals (split at ht <;> first|(exfalso;simp_all;done)|skip)
      all_goals simp only[Option.some.injEq,Prod.mk.injEq,DataW.held.injEq]at ht
      all_goals (rw[<- ht.1]at hk;rw[l _ _ _ hk];rfl)
   ·cases h
  ·rename_i n e F c
   obtain⟨xs,m,rfl,a,z,I,o⟩:=DataW.trod_array c ht
   simp only[Prod.mk.injEq,DataW.agg.injEq]at a
   split at h
   ·rename_i k
    split at h
    ·rename_i A b
     rw[a.1,List.getElem?_map]at b
     cases hy:xs[j / P.cellsOf e]? with
     | none=>rw[hy]at b;cases b
     | some y =>
      rw[hy]at b
      simp only[Option.map_some,Option.some.injEq]at b
      have u:=o _ k
      rw[hy]at u
      have B:=Ziv l f e A _ v m _ y.2 h (by rw[u,<- b])
      have C:=Zml B
      rwa[Nat.mul_comm,Nat.div_add_mod]at C
    ·cases h
   ·cases h
  ·rename_i M F c
   obtain⟨xs,m,rfl,a,z,I,o⟩:=DataW.trod_struct c ht
   simp only[Prod.mk.injEq,DataW.agg.injEq]at a
   split at h
   ·rename_i i G
    split at h
    ·rename_i x A D b
     rw[a.1,List.getElem?_map]at b
     cases hy:xs[i]? with
     | none=>rw[hy]at b;cases b
     | some y =>
      rw[hy]at b
      simp only[Option.map_some,Option.some.injEq]at b
      have u:=o i x D
      rw[hy]at u
      have B:=Ziv l f x.type A _ v m _ y.2 h (by rw[u,<- b])
      have C:=Zml B
      have E:=List.find?_some G
      rw[D]at E
      simp only[Bool.and_eq_true,decide_eq_true_eq]at E
      rwa[show x.offset+(j - x.offset)=j by omega]at C
    ·cases h
   ·cases h
  ·cases h
theorem Zf1 {H:Type}{enc:TypeId × Value->H}{e:H->Option FuncId}{P:Program}{w:World}{a:Nat}{y:Nat->Bool}{b:Bool}(c:∀ t v g,e (enc (t,v))=some g->v = .func (.func g) #[] #[]){n:String}{d:DataW H}{g:Nat}{t:TypeId}{cells:List Value}{s:Nat}{cs:Array Value}{k:Nat}{p:List MemPlace}(fuel:Nat)
  (m:P.globalNamed n=some g) (o:w.var? P n=some cs) (q:DataW.trod enc P w a y b k t cs.toList=some (d,p)) (x:(List.range cells.length).map (fun j=>Ziw P e fuel t d (s+j))=cells.map some):Zau w ⟨g,s,none⟩ cells:=by
 intro j v i
 have h:=(List.getElem?_eq_some_iff.1 i).1
 have f:=congrArg (fun l=>l[j]?) x
 simp only[List.getElem?_map,List.getElem?_range h,Option.map_some,i]at f
 simp only[Option.some.injEq]at f
 have r:=Ziv c fuel t _ _ v _ _ _ f q
 rw[Zb5]
 have u:=World.var?_cell m o (s+j)
 rw[u]
 simpa using r
theorem Zdo {P:Program}{w:World}{n:String}{d:DataW Unit}{g:Nat}{t:TypeId}{cells:List Value}{s:Nat}(m:List (String × FuncId))(fuel:Nat)(h:funcsAt P w n d)(i:P.globalNamed n=some g)(l:(P.globals[g]?).map (·.type)=some t)
  (f:(List.range cells.length).map (fun j=>Ziw P (ZzD P m) fuel t d.funcsOut (s+j))=cells.map some):Zau w ⟨g,s,none⟩ cells:=by
 obtain⟨q,t',cs,o,p,a,b,c,e⟩:=h
 obtain rfl:=Option.some.inj (i.symm.trans a)
 obtain rfl:=Option.some.inj (l.symm.trans b)
 exact Zf1 (fun _ _ _ k=>ZnY k rfl) fuel a c e f
theorem Zex {P:Program}{w:World}:∀ {l:List (String × DataW Unit)} {a:List MemPlace},DataW.LaidVars P w l a->∀ {n:String} {d:DataW Unit},(n,d)∈l ->
  ∃ g t cs fuel p,P.globalNamed n=some g/\(P.globals[g]?).map (·.type)=some t/\w.var? P n=some cs/\DataW.trod (fun _=>()) P w 0 (fun _=>true) false fuel t cs.toList=some (d,p)
 | [],_,_,_,_,h=>by cases h
 | (n0,d0)::l,a,hl,n,d,h=>by
  obtain⟨g,t,cs,fuel,p,q,b,c,e,f,i,_⟩:=hl
  rcases List.mem_cons.1 h with he|h
  ·obtain⟨rfl,rfl⟩:=Prod.mk.inj he
   exact⟨g,t,cs,fuel,p,b,c,e,f⟩
  ·exact Zex i h
theorem Zg4 {P:Program}{l:List (String × DataW Unit)}{w:World}(h:laidMetH P l w):laidMet P (l.filter fun x=>x.2.handleName?.isNone) w:=by
 unfold laidMetH at h
 generalize hfl:(l.filter fun x=>x.2.handleName?.isSome)=fl at h
 cases fl with
 | nil =>
  have e:(l.filter fun x=>x.2.handleName?.isNone)=l:=by
   rw[List.filter_eq_self]
   intro x b
   have:=(List.filter_eq_nil_iff.1 hfl) x b
   cases hn:x.2.handleName? with
   | none=>rfl
   | some s=>rw[hn]at this;exact absurd rfl this
  rw[e]
  exact h
 | cons a ys=>exact h.1
theorem Zlm {P:Program}{w:World}{l:List (String × DataW Unit)}{n:String}{d:DataW Unit}{g:Nat}{t:TypeId}{cells:List Value}(fuel:Nat)(h:laidMetH P l w)(o:(n,d)∈l.filter fun x=>x.2.handleName?.isNone)(i:P.globalNamed n=some g)(q:(P.globals[g]?).map (·.type)=some t)
  (f:(List.range cells.length).map (fun j=>Ziw P (fun _:Unit=>none) fuel t d (0+j))=cells.map some):Zau w ⟨g,0,none⟩ cells:=by
 obtain⟨u,m,_⟩:=Zg4 h
 obtain⟨s,t',cs,r,p,a,b,c,e⟩:=Zex m o
 obtain rfl:=Option.some.inj (i.symm.trans a)
 obtain rfl:=Option.some.inj (q.symm.trans b)
 exact Zf1 (fun _ _ _ k=>by cases k) fuel a c e f
def ZA8:TypeDesc->Bool | .interface _=>true|_=>false
theorem Zk8 {P:Program}{w:World}{l:List (String × DataW Unit)}{n:String}{d:DataW Unit}{g:Nat}{t:TypeId}(h:laidMetH P l w)(s:(n,d)∈l.filter fun x=>x.2.handleName?.isNone)(q:P.globalNamed n=some g)(u:(P.globals[g]?).map (·.type)=some t)
  (b:(P.underlying t).map ZA8=some true):∃ ev,w.cell? ⟨g,0,none⟩=some ev/\(ev = .nilIface\/∃ z y,ev = .iface z y):=by
 obtain⟨B,r,_⟩:=Zg4 h
 obtain⟨A,t',cs,k,p,e,m,o,a⟩:=Zex r s
 obtain rfl:=Option.some.inj (q.symm.trans e)
 obtain rfl:=Option.some.inj (u.symm.trans m)
 have i:=World.var?_cell e o 0
 obtain⟨j,v⟩:∃ j,P.underlying t=some (.interface j):=by
  cases hd:P.underlying t with
  | none=>rw[hd]at b;cases b
  | some td=>cases td <;> first|exact⟨_,rfl⟩|(rw[hd]at b;simp[ZA8]at b)
 cases k with
 | zero=>simp[DataW.trod]at a
 | succ f =>
  unfold DataW.trod at a
  rw[v]at a
  split at a <;> first|(exfalso;simp_all;done)|skip
  ·rename_i c
   exact⟨.nilIface,by rw[i,<- Array.getElem?_toList,c];rfl,.inl rfl⟩
  ·rename_i c
   exact⟨_,by rw[i,<- Array.getElem?_toList,c];rfl,.inr ⟨_,_,rfl⟩⟩
section
variable {H:Type}{enc:TypeId × Value->H}
theorem ZoC {C:Checked}{os:Os}{f:FuncId}{fn:Func}{s:ChangeSpec}{b:List PathCond}{t:TypeId}(c:List (String × DataW Unit))(S:ownKnob C.prog.godebug=none)(d:os.Started)(m:C.prog.inits.idxOf? f=none)(L:C.prog.funcs[f]?=some fn)
  (g:∃ (w:World) (a:Tape) (i:Input),w.os=os/\(w.forCall a i).Shaped C.prog/\i.vars=[]/\Input.okWide C.prog (w.forCall a i) .any w.heap.size f i /\
   ((s.pre enc C.prog fn b false (w.forCall a i).memory i.args/\laidMetH C.prog c (w.forCall a i).memory)/\sizedMet enc C.prog fn (OpenSpec.ofChange s) false (w.forCall a i).memory i.args)/\({}:Assume).holds C.prog (lone (Frame.enter C.prog f i.args .normal) [] (w.forCall a i)))
  (x:s.vars=[]) (B:fn.resultTypes = #[t]) (R:C.prog.underlying t=some .bool) (Y:laidOutB C.prog=true)
  (Z:fn.params.toList.all (fun t=>C.prog.readableRec t&&decide (t<C.prog.types.size))=true) (u:∀ r:List (DataW H),r.length=fn.params.toList.length->s.fn H r={ results:=[.lit (.bool true)],args:=r })
  (walk:∀ (W:World) (y:Nat) (args:List Value) (r:List (DataW H)) (p:List MemPlace),(∀ (j:Nat) t v,fn.params.toList[j]?=some t->args[j]?=some v->Value.okWide C.prog W .any y t v)->laidMetH C.prog c W->W.ShapedOpen C.prog ->
   DataW.TrodAll enc C.prog W 0 (fun _=>true) true fn.params.toList args r p->Does C.prog f args W (fun v _=>v = .bool true)) :
  ReturnsInHanded {} C os f .any (fun w args=>(s.pre enc C.prog fn b false w args/\laidMetH C.prog c w)/\sizedMet enc C.prog fn (OpenSpec.ofChange s) false w args) (s.post enc C.prog fn false true false false):=by
 have N:∀ t∈fn.params.toList,C.prog.readableRec t=true/\t<C.prog.types.size:=fun t R=>by
  have:=List.all_eq_true.1 Z t R
  simpa using this
 refine returnsInHanded_of_calls S d m g ?_
 intro w a i _ Q _ M A I
 obtain⟨_,_,_,J,z,_,_,_,_,D⟩:=M
 have e:J=fn:=Option.some.inj (z.symm.trans L)
 subst e
 obtain⟨⟨⟨r,gs,F,hw,hc⟩,hx⟩,hz⟩:=A
 have E:=DataW.Whole.of_heap (w':=w.forCall a i) (by rfl) hw
 obtain⟨p,q,V,_⟩:=id E
 have K:=walk (w.forCall a i) w.heap.size i.args.toList r p (fun j t v T U=>D j t v (by simpa using T) (by simpa using U)) (laidMetH.of_heap (by rfl) hx) Q V
 unfold Does at K
 rw[Array.toArray_toList]at K
 refine K.mono ?_
 rintro e W' ⟨v,O,rfl,X,_,rfl⟩
 exact ChangeSpec.post_blind (ZwG x B R Y N u E X.toBelow)
end
end Go.Wk
