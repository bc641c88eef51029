/- Parts of the proof. -/
import Derived.Test.YtdlmhmmhdbbliaaGreatDoorV06
import Derived.Test.YtdlmhmmhdbbliaaGreatDoorV29
import Derived.Laws.OwnMore
import Derived.Test.YtdlmhmmhdbbliaaGreatDoorV09
import Derived.Test.YtdlmhmmhdbbliaaGreatDoorV28
import Derived.Test.YtdlmhmmhdbbliaaGreatDoorV08
import Derived.Test.YtdlmhmmhdbbliaaGreatDoorV10
import Derived.Test.YtdlmhmmhdbbliaaGreatDoorV11
import Derived.Test.YtdlmhmmhdbbliaaGreatDoorV20
set_option maxHeartbeats 4000000
set_option linter.unusedVariables false
set_option linter.unusedSimpArgs false
namespace Go.Wk
open Go Go.RowKit
theorem Zjx {P:Program}{n:Nat}{wr:World}{fr:Fr}{O:List It}{ty t t':TypeId}{α:Type}[DecidableEq α]{enc:α->List Value}{x y:Operand}{i j:α}{b:Bool}[hE:EqE P t α enc](hx:ev fr x=some (.agg (enc i).toArray))(hy:ev fr y=some (.agg (enc j).toArray))(h:decide (i=j)=b) :
  Pu P n wr fr O (.binOp .eql t x y t') ty (.bool b):=h▸Pu_eqlE hx hy
theorem Zpd {P:Program}{n:Nat}{wr:World}{fr:Fr}{O:List It}{ty t t':TypeId}{α:Type}[DecidableEq α]{enc:α->List Value}{x y:Operand}{i j:α}{b:Bool}[hE:EqE P t α enc](hx:ev fr x=some (.agg (enc i).toArray))(hy:ev fr y=some (.agg (enc j).toArray))(h:(!decide (i=j))=b) :
  Pu P n wr fr O (.binOp .neq t x y t') ty (.bool b):=h▸Pu_neqE hx hy
end Go.Wk
namespace Go.Proofs.YtdlmhmmhdbbliaaGreatDoor
open Go Go.RowKit Go.Wk
instance : EqE Tryz.prog 39 ZbI ZbI.enc where
 h r s w:=by
  unfold ZbI.enc
  simp[go_sem,ZdH]
  rcases r with⟨_,_,_,_,_⟩
  rcases s with⟨_,_,_,_,_⟩
  simp only[Zmn,Result.ok.injEq,and_true]
  rw[Bool.eq_iff_iff]
  simp[and_assoc]
 g:=by kernel_rfl
instance : EqE Tryz.prog 41 ZaQ ZaQ.enc where
 h r s w:=by
  unfold ZaQ.enc
  simp[go_sem,ZdH]
  rcases r with⟨_,_,_,_,⟨_,_,_,_,_⟩,⟨_,_,_,_,_⟩⟩
  rcases s with⟨_,_,_,_,⟨_,_,_,_,_⟩,⟨_,_,_,_,_⟩⟩
  simp only[Zmn,Result.ok.injEq,and_true]
  rw[Bool.eq_iff_iff]
  simp[and_assoc]
 g:=by kernel_rfl
end Go.Proofs.YtdlmhmmhdbbliaaGreatDoor
namespace Go.Wk
open Go Go.RowKit
section
variable {P:Program}{n:Nat}{wr:World}{fr:Fr}{O:List It}{ty:TypeId}{pos:String}{af:Array Edge}{dst:Option Tmp}{g:Option (Nat × Bool)}{Kp:Value->List It->Prop}
end
theorem RdSl.pre {α:Type}{w:World}{A:Option Addr}{c sz:Nat}{enc:α->List Value}{x y:List α}(h:RdSl w A c enc sz (x++y)):RdSl w A c enc sz x :=
 ⟨by have:=h.le;rw[List.length_append]at this;omega,h.cap,fun k v hv=>h.rd k v (by
  have hk:=(List.getElem?_eq_some_iff.1 hv).1
  rw[List.getElem?_append_left hk];exact hv)⟩
end Go.Wk
namespace Go.Proofs.YtdlmhmmhdbbliaaGreatDoor
open Go Go.RowKit Go.Wk
def okR (r:Zab):Bool:=decide (r.name.size<=1000000000)&&(decide (r.letter.size<=1000000000)&&(decide (-9223372036854775808<=r.save)&&decide (r.save<=9223372036854775807)))
def okI (n:Int):Bool:=decide (-9223372036854775808<=n)&&decide (n<=9223372036854775807)
def okE (e:DEra):Bool:=okI e.off&&(okI e.save&&(okI e.kind&&(decide (e.format.size<=1000000000)&&decide (e.set.size<=1000000000))))
def okZ (z:Za5):Bool:=decide (z.name.size<=1000000000)&&(decide (z.eras.length<=1000000)&&z.eras.all okE)
def okL (l:Zcj):Bool:=decide (l.target.size<=1000000000)&&decide (l.name.size<=1000000000)
def okD (s:Zai):Bool:=decide (s.rules.length<=1000000)&&(decide (s.zones.length<=1000000)&&(decide (s.links.length<=1000000)&&(decide (s.shifts.length<=1000000)&&(s.rules.all okR&&(s.zones.all okZ&&s.links.all okL)))))
theorem Zs8 {n:Int}(h:okI n=true):I64 n:=by
 unfold okI at h
 rw[Bool.and_eq_true,decide_eq_true_eq,decide_eq_true_eq]at h
 exact h
theorem Zs9 {s:Zai}(h:okD s=true):ZhV s/\SavI s/\∀ z∈s.zones,∀ e∈z.eras,Zr8 e:=by
 unfold okD at h
 simp only[Bool.and_eq_true,decide_eq_true_eq,List.all_eq_true]at h
 obtain⟨h1,h2,h3,h4,h5,h6,h7⟩:=h
 have hr:∀ r∈s.rules,_:=fun r hr=>by
  have:=h5 r hr
  unfold okR at this
  simp only[Bool.and_eq_true,decide_eq_true_eq]at this
  exact this
 have hz:∀ z∈s.zones,z.name.size<=1000000000/\z.eras.length<=1000000/\∀ e∈z.eras,okE e=true:=fun z hz=>by
  have:=h6 z hz
  unfold okZ at this
  simp only[Bool.and_eq_true,decide_eq_true_eq,List.all_eq_true]at this
  exact this
 have he:∀ e,okE e=true->I64 e.off/\I64 e.save/\I64 e.kind/\e.format.size<=1000000000/\e.set.size<=1000000000:=fun e he=>by
  unfold okE at he
  simp only[Bool.and_eq_true,decide_eq_true_eq]at he
  exact⟨Zs8 he.1,Zs8 he.2.1,Zs8 he.2.2.1,he.2.2.2⟩
 refine⟨⟨h1,h2,h3,h4,fun r h=>⟨(hr r h).1,(hr r h).2.1⟩,fun z h=>⟨(hz z h).1,(hz z h).2.1,fun e h'=>⟨(he e ((hz z h).2.2 e h')).2.2.2.2,(he e ((hz z h).2.2 e h')).2.2.2.1⟩⟩,fun l h=>?_⟩,fun r h=>⟨(hr r h).2.2.1,(hr r h).2.2.2⟩,fun z h e h'=>?_⟩
 ·have:=h7 l h
  unfold okL at this
  simp only[Bool.and_eq_true,decide_eq_true_eq]at this
  exact this
 ·have:=he e ((hz z h).2.2 e h')
  exact⟨this.1,this.2.1,this.2.2.1,this.2.2.2.1⟩
theorem ZzG {w w':World}{Ar Az Al As:Option Addr}{cr cz cl cs:Nat}{a:Zai}(hL:LibW w)(hG:Glob w)(hw:Bel w.heap.size w w')(h:okD a=true)(hA:Zav w' Ar Az Al As cr cz cl cs a):ZdG w' Ar Az Al As cr cz cl cs a :=
 ⟨hL.up hw,hG.up hw,hA,(Zs9 h).1,(Zs9 h).2.1,(Zs9 h).2.2⟩
attribute [local irreducible] W RL Does Zau Zak retQ Calls Pu Stp RD Qy Ay Zaj
theorem ZbL (n:Int)(w:World):Does Tryz.prog 33 [.int .i64 n] w (fun v O=>v = .agg #[.int .i64 3,.int .i64 0,.int .i64 n]/\O=[]):=by
 refine Zaa Tryz.func33 rfl rfl rfl rfl ?_
 repeat (first|(refine js ?_;(refine bx ?_;intro bk))|refine walk ?_)
 exact ret_1 _ [] (.cellB rfl (by repeat' constructor) rfl rfl) .nil ⟨rfl,rfl⟩
theorem ZaD (n:Int)(w:World):Does Tryz.prog 34 [.int .i64 n] w (fun v O=>v = .agg #[.int .i64 1,.int .i64 0,.int .i64 n]/\O=[]):=by
 refine Zaa Tryz.func34 rfl rfl rfl rfl ?_
 repeat (first|(refine js ?_;(refine bx ?_;intro bk))|refine walk ?_)
 exact ret_1 _ [] (.cellB rfl (by repeat' constructor) rfl rfl) .nil ⟨rfl,rfl⟩
theorem Zax (m k wk dd sec save:Int)(w:World):Does Tryz.prog 32 [.int .i64 m,.agg #[.int .i64 k,.int .i64 wk,.int .i64 dd],.int .i64 sec,.int .i64 save] w (fun v O=>v = .agg #[.string Zzo,.int .i64 1972,.int .i64 1048576,.int .i64 m,.int .i64 k,.int .i64 wk,.int .i64 dd,.int .i64 sec,.int .i64 2,.int .i64 save,.string ByteArray.empty]/\O=[]):=by
 refine Zaa Tryz.func32 rfl rfl rfl rfl ?_
 repeat (first|(refine js ?_;(refine bx ?_;intro bk))|refine walk ?_)
 exact ret_1 _ [] (.cellB rfl (by repeat' constructor) rfl rfl) .nil ⟨rfl,rfl⟩
theorem ZtU (r:Zab)(off before:Int)(x:ZbI)(e:Int)(w:World)(hG:Glob w)(hF:FtG w)(h:Zdk r off before=(x,e)):Does Tryz.prog 31 [.agg r.enc.toArray,.int .i64 off,.int .i64 before] w (fun v O=>v = .tuple #[.agg x.enc.toArray,.int .i64 e]/\O=[]):=by
 have:=Zhe r off before w hG hF
 rwa[h]at this
theorem ZtV (r:Zab)(w:World)(hG:Glob w)(hF:FtG w)(h:Zdk r 0 0=(dt0,2)):Does Tryz.prog 35 [.agg r.enc.toArray] w (fun v O=>v = .bool true/\O=[]):=by
 have hd:∀ w',Bel w.heap.size w w'->Does Tryz.prog 31 [.agg r.enc.toArray,.int .i64 0,.int .i64 0] w' (fun v O=>v = .tuple #[.agg #[.int .i64 0,.int .i64 0,.int .i64 0,.int .i64 0,.int .i64 0],.int .i64 2]/\O=[]):=fun w' hw=>ZtU r 0 0 dt0 2 w' (hG.up hw) (hF.up hw) h
 clear h
 obtain⟨nm,fr,to,mo,⟨dk,dw,dd⟩,⟨cs,cb⟩,sv,le⟩:=r
 show Does _ _ [.agg #[.string nm,.int .i64 fr,.int .i64 to,.int .i64 mo,.int .i64 dk,.int .i64 dw,.int .i64 dd,.int .i64 cs,.int .i64 cb,.int .i64 sv,.string le]] w _
 refine Zaa Tryz.func35 rfl rfl rfl rfl ?_
 repeat (first|(apply RL_pu;rfl;(apply Zjx (i:=dt0) (j:=dt0) (enc:=ZbI.enc);rfl;rfl;exact decide_eq_true rfl))|(refine js ?_;(first|(refine Zac hd ?_)|(refine bx ?_;intro bk)))|refine walk1 ?_)
 exact rtA
theorem ZyY (Ar Az Al As:Option Addr)(cr cz cl cs:Nat)(a:Zai)(p:ZaQ)(y:Int)(w:World)(h1:∀ w',Bel w.heap.size w w'->Does Tryz.prog 8 [srcV Ar Az Al As cr cz cl cs a,.int .i64 0] w' (fun v O=>v = .tuple #[.agg p.enc.toArray,.int .i64 0]/\O=[]))
  (h2:∀ w',Bel w.heap.size w w'->Does Tryz.prog 6 [srcV Ar Az Al As cr cz cl cs a,.int .i64 0] w' (fun v O=>v = .tuple #[.int .i64 y,.int .i64 0]/\O=[])) :
  Does Tryz.prog 36 [srcV Ar Az Al As cr cz cl cs a,.agg p.enc.toArray,.int .i64 y] w (fun v O=>v = .bool true/\O=[]):=by
 obtain⟨p1,p2,p3,p4,⟨p5,p6,p7,p8,p9⟩,⟨q1,q2,q3,q4,q5⟩⟩:=p
 have e1:decide (y=y)=true:=decide_eq_true rfl
 change ∀ w',Bel w.heap.size w w'->Does _ _ _ w' (fun v O=>v = .tuple #[.agg #[.string p1,.int .i64 p2,.string p3,.int .i64 p4,.int .i64 p5,.int .i64 p6,.int .i64 p7,.int .i64 p8,.int .i64 p9,.int .i64 q1,.int .i64 q2,.int .i64 q3,.int .i64 q4,.int .i64 q5],.int .i64 0]/\O=[]) at h1
 show Does _ _ [_,.agg #[.string p1,.int .i64 p2,.string p3,.int .i64 p4,.int .i64 p5,.int .i64 p6,.int .i64 p7,.int .i64 p8,.int .i64 p9,.int .i64 q1,.int .i64 q2,.int .i64 q3,.int .i64 q4,.int .i64 q5],.int .i64 y] w _
 refine Zaa Tryz.func36 rfl rfl rfl rfl ?_
 repeat (first|(apply RL_pu;rfl;(first|(apply Zjx (i:=(⟨p1,p2,p3,p4,⟨p5,p6,p7,p8,p9⟩,⟨q1,q2,q3,q4,q5⟩⟩:ZaQ)) (j:=⟨p1,p2,p3,p4,⟨p5,p6,p7,p8,p9⟩,⟨q1,q2,q3,q4,q5⟩⟩) (enc:=ZaQ.enc);rfl;rfl;exact decide_eq_true rfl)|(apply Zaw;rfl;rfl;exact e1)))|(refine js ?_;(first|(refine Zac h1 ?_)|(refine Zac h2 ?_)|(refine bx ?_;intro bk)))|refine walk1 ?_)
 exact rtA
theorem ZyJ {w:World}{Ar Ae:Option Addr}{cr ce bz:Nat}{rs:List Zab}{nm:ByteArray}{es:List DEra}(hr:RdSl w Ar cr Zab.enc 11 rs)(hz:(It.blk bz [.string nm,.slice Ae es.length ce] 50).sat w)(he:RdSl w Ae ce DEra.enc 13 es):Zav w Ar (some ⟨bz,0,none⟩) none none cr 1 0 0 ⟨rs,[⟨nm,es⟩],[],[]⟩ :=
 ⟨hr,Nat.le_refl 1,by decide,Zpy (Zk9 (c:=1) (l:=[(⟨⟨nm,es⟩,Ae,ce⟩:ZE)]) ZE.len (Nat.le_refl 1) (by decide) hz) (fun q hq=>by rw[List.mem_singleton.1 hq];exact he),Zok _ _ _,Zok _ _ _⟩
def ZBM (v:Value)(O:List It):Prop:=∃ br be bz,v = .agg #[.slice (some ⟨br,0,none⟩) 3 3,.slice (some ⟨bz,0,none⟩) 1 1,.slice none 0 0,.slice none 0 0] /\
 O=[.blk bz [.string dubN,.slice (some ⟨be,0,none⟩) 2 2] 50,.blk be (ZfR.enc++Zd2.enc) 75,.blk br (ZpE.enc++(ZeC.enc++ZjY.enc)) 82]
theorem Zt0 (w:World):Does Tryz.prog 37 [] w ZBM:=by
 refine Zaa Tryz.func37 rfl rfl rfl rfl ?_
 repeat' (first|(refine js ?_;(first|(refine Zac (fun w' _=>ZbL 15 w') ?_)|(refine Zac (fun w' _=>ZaD 31 w') ?_)|(refine Zac (fun w' _=>ZaD 27 w') ?_)|(refine Zac (fun w' _=>Zax 10 1 0 31 7200 (-3600) w') ?_)|(refine Zac (fun w' _=>Zax 3 3 0 15 7200 0 w') ?_)|(refine Zac (fun w' _=>Zax 10 2 0 0 3600 (-3600) w') ?_)|(refine bx ?_;intro bk)))|refine walk ?_|(refine Ze0 ?_;intro F;(first|(refine Zac (fun w' _=>ZbL 15 w') ?_)|(refine Zac (fun w' _=>ZaD 31 w') ?_)|(refine Zac (fun w' _=>ZaD 27 w') ?_)|(refine Zac (fun w' _=>Zax 10 1 0 31 7200 (-3600) w') ?_)|(refine Zac (fun w' _=>Zax 3 3 0 15 7200 0 w') ?_)|(refine Zac (fun w' _=>Zax 10 2 0 0 3600 (-3600) w') ?_));refine⟨_,EndsA,SubO.right _ _,?_⟩)|(refine ZAX (fun bk=>?_) ?_;rotate_left;intro F;(first|(refine Zac (fun w' _=>ZbL 15 w') ?_)|(refine Zac (fun w' _=>ZaD 31 w') ?_)|(refine Zac (fun w' _=>ZaD 27 w') ?_)|(refine Zac (fun w' _=>Zax 10 1 0 31 7200 (-3600) w') ?_)|(refine Zac (fun w' _=>Zax 3 3 0 15 7200 0 w') ?_)|(refine Zac (fun w' _=>Zax 10 2 0 0 3600 (-3600) w') ?_));refine⟨_,EndsA,SubO.right _ _,?_⟩)|(refine ZAW (fun bk=>?_) (fun bk=>?_) ?_;rotate_left 2;intro F;(first|(refine Zac (fun w' _=>ZbL 15 w') ?_)|(refine Zac (fun w' _=>ZaD 31 w') ?_)|(refine Zac (fun w' _=>ZaD 27 w') ?_)|(refine Zac (fun w' _=>Zax 10 1 0 31 7200 (-3600) w') ?_)|(refine Zac (fun w' _=>Zax 3 3 0 15 7200 0 w') ?_)|(refine Zac (fun w' _=>Zax 10 2 0 0 3600 (-3600) w') ?_));refine⟨_,EndsA,SubO.right _ _,?_⟩)|(refine RD_Lw ?_;intro F;(first|(refine Zac (fun w' _=>ZbL 15 w') ?_)|(refine Zac (fun w' _=>ZaD 31 w') ?_)|(refine Zac (fun w' _=>ZaD 27 w') ?_)|(refine Zac (fun w' _=>Zax 10 1 0 31 7200 (-3600) w') ?_)|(refine Zac (fun w' _=>Zax 3 3 0 15 7200 0 w') ?_)|(refine Zac (fun w' _=>Zax 10 2 0 0 3600 (-3600) w') ?_)|(refine bx ?_;intro bk)|(refine stA ?_)|(apply Zae;exact PuA));refine⟨_,EndsA,QFA,?_⟩)|(refine ZAV (fun bk=>?_) ?_;rotate_left;intro F;(first|(refine Zac (fun w' _=>ZbL 15 w') ?_)|(refine Zac (fun w' _=>ZaD 31 w') ?_)|(refine Zac (fun w' _=>ZaD 27 w') ?_)|(refine Zac (fun w' _=>Zax 10 1 0 31 7200 (-3600) w') ?_)|(refine Zac (fun w' _=>Zax 3 3 0 15 7200 0 w') ?_)|(refine Zac (fun w' _=>Zax 10 2 0 0 3600 (-3600) w') ?_)|(refine bx ?_;intro bk)|(refine stA ?_)|(apply Zae;exact PuA));refine⟨_,EndsA,QFA,?_⟩)|(refine ZAU (fun bk=>?_) (fun bk=>?_) ?_;rotate_left 2;intro F;(first|(refine Zac (fun w' _=>ZbL 15 w') ?_)|(refine Zac (fun w' _=>ZaD 31 w') ?_)|(refine Zac (fun w' _=>ZaD 27 w') ?_)|(refine Zac (fun w' _=>Zax 10 1 0 31 7200 (-3600) w') ?_)|(refine Zac (fun w' _=>Zax 3 3 0 15 7200 0 w') ?_)|(refine Zac (fun w' _=>Zax 10 2 0 0 3600 (-3600) w') ?_)|(refine bx ?_;intro bk)|(refine stA ?_)|(apply Zae;exact PuA));refine⟨_,EndsA,QFA,?_⟩)|(apply RD_W;rfl;intro bk)|(refine ZBI rfl rfl rfl (fun bk=>?_) (fun bk=>?_))|(refine Zaf rfl (fun hc=>?_) (fun hc=>?_)))
 all_goals exact ret_1 _ [.blk _ [.string dubN,.slice (some ⟨_,0,none⟩) 2 2] 50,.blk _ (ZfR.enc++Zd2.enc) 75,.blk _ (ZpE.enc++(ZeC.enc++ZjY.enc)) 82] (.cellB rfl (by repeat' constructor) rfl rfl) SOA ⟨_,_,_,rfl,rfl⟩
theorem ZoT (w:World):Bel w.heap.size w w:=⟨Below.refl _ _⟩
theorem Zt1 (br bz:Nat)(w:World)(hL:LibW w)(hG:Glob w)(hF:FtG w)(hA:Zav w (some ⟨br,0,none⟩) (some ⟨bz,0,none⟩) none none 3 1 0 0 Zm4) :
  Does Tryz.prog 36 [srcV (some ⟨br,0,none⟩) (some ⟨bz,0,none⟩) none none 3 1 0 0 Zm4,.agg istP.enc.toArray,.int .i64 1973] w (fun v O=>v = .bool true/\O=[]):=by
 have h:=ZzG hL hG (ZoT w) (show okD Zm4=true by decide +kernel) hA
 refine ZyY _ _ _ _ _ _ _ _ Zm4 istP 1973 w (fun w' hw=>?_) (fun w' hw=>?_)
 ·have:=Zxw _ _ _ _ _ _ _ _ Zm4 0 ⟨dubN,[ZfR,Zd2]⟩ Zd2 2 1 ZjY ZeC w' (h.up hw) (hF.up hw) Zqh rfl rfl rfl ⟨by decide,by decide⟩ (by decide +kernel) (by decide +kernel) (by decide +kernel) ⟨by decide,by decide⟩ ⟨by decide,by decide⟩
  rwa[Zzn]at this
 ·have:=ZkU _ _ _ _ _ _ _ _ Zm4 0 ⟨dubN,[ZfR,Zd2]⟩ w' (h.up hw) Zqh rfl (by decide) (by rw[ZtZ];decide)
  rwa[ZtZ]at this
theorem Zwr (bz:Nat)(w:World)(hL:LibW w)(hG:Glob w)(hA:Zav w none (some ⟨bz,0,none⟩) none none 0 1 0 0 oneS) :
  Does Tryz.prog 36 [srcV none (some ⟨bz,0,none⟩) none none 0 1 0 0 oneS,.agg ZwN.enc.toArray,.int .i64 1850] w (fun v O=>v = .bool true/\O=[]):=by
 have h:=ZzG hL hG (ZoT w) (show okD oneS=true by decide +kernel) hA
 refine ZyY _ _ _ _ _ _ _ _ oneS ZwN 1850 w (fun w' hw=>?_) (fun w' hw=>?_)
 ·have:=Zta _ _ _ _ _ _ _ _ oneS 0 ⟨zoA,[Zd1]⟩ Zd1 w' (h.up hw) Zs5 rfl rfl (by decide) ⟨by decide,by decide⟩ (by decide)
  rwa[show Za4 Zd1 Zd1.save ByteArray.empty=ZwN from ZAm]at this
 ·have:=ZkU _ _ _ _ _ _ _ _ oneS 0 ⟨zoA,[Zd1]⟩ w' (h.up hw) Zs5 rfl (by decide) (by rw[Zxt];decide)
  rwa[Zxt]at this
theorem Zv4 (bz:Nat)(w:World)(hL:LibW w)(hG:Glob w)(hA:Zav w none (some ⟨bz,0,none⟩) none none 0 1 0 0 twoS) :
  Does Tryz.prog 36 [srcV none (some ⟨bz,0,none⟩) none none 0 1 0 0 twoS,.agg mstP.enc.toArray,.int .i64 1951] w (fun v O=>v = .bool true/\O=[]):=by
 have h:=ZzG hL hG (ZoT w) (show okD twoS=true by decide +kernel) hA
 refine ZyY _ _ _ _ _ _ _ _ twoS mstP 1951 w (fun w' hw=>?_) (fun w' hw=>?_)
 ·have:=Zta _ _ _ _ _ _ _ _ twoS 0 ⟨zoA,[Zia,Zd0]⟩ Zd0 w' (h.up hw) Zsq rfl rfl (by decide) ⟨by decide,by decide⟩ (by decide)
  rwa[show Za4 Zd0 Zd0.save ByteArray.empty=mstP from Zsp]at this
 ·have:=ZkU _ _ _ _ _ _ _ _ twoS 0 ⟨zoA,[Zia,Zd0]⟩ w' (h.up hw) Zsq rfl (by decide) (by rw[Zxp];decide)
  rwa[Zxp]at this
theorem Zyy {G:Prop}(h:G:=by(first|(apply Zpd (i:=(⟨3,0,3,3,7200⟩:ZbI)) (j:=⟨3,0,3,3,7200⟩) (enc:=ZbI.enc);rfl;rfl;rfl)|(apply Zpd (i:=(⟨1,304,0,0,10800⟩:ZbI)) (j:=⟨1,304,0,0,10800⟩) (enc:=ZbI.enc);rfl;rfl;rfl))):G:=h
set_option maxHeartbeats 4000000 in
theorem ZlV (w:World)(hL:LibW w)(hG:Glob w)(hF:FtG w):Does Tryz.prog 11 [] w (fun v O=>v = .bool true/\O=[]):=by
 have d1:∀ w',Bel w.heap.size w w'->Does Tryz.prog 31 [.agg ZeC.enc.toArray,.int .i64 3600,.int .i64 (-3600)] w' (fun v O=>v = .tuple #[.agg #[.int .i64 3,.int .i64 0,.int .i64 3,.int .i64 3,.int .i64 7200],.int .i64 0]/\O=[]):=fun w' hw=>ZtU ZeC 3600 (-3600) _ 0 w' (hG.up hw) (hF.up hw) Zz9
 have d2:∀ w',Bel w.heap.size w w'->Does Tryz.prog 31 [.agg Zsn.enc.toArray,.int .i64 0,.int .i64 3600] w' (fun v O=>v = .tuple #[.agg #[.int .i64 1,.int .i64 304,.int .i64 0,.int .i64 0,.int .i64 10800],.int .i64 0]/\O=[]):=fun w' hw=>ZtU Zsn 0 3600 _ 0 w' (hG.up hw) (hF.up hw) Zz8
 have f1:=fun w' (hw:Bel w.heap.size w w')=>ZtV (Zma 2 ⟨1,0,29⟩ 0 0) w' (hG.up hw) (hF.up hw) Zz7
 have f2:=fun w' (hw:Bel w.heap.size w w')=>ZtV (Zma 3 (sunD 9) 0 0) w' (hG.up hw) (hF.up hw) Zz6
 have f3:=fun w' (hw:Bel w.heap.size w w')=>ZtV { ZeC with to:=2010 } w' (hG.up hw) (hF.up hw) Zz5
 refine Zaa Tryz.func11 rfl rfl rfl rfl ?_
 repeat (first|refine und ?_|(apply RL_pu;rfl;exact Zyy)|(apply RD_Q;rfl;rfl;decide +kernel;rfl;rfl;exact QyFtW0)|refine Zv2 ?_|(refine jg ?_;(try intro F);(first|(refine Zac (fun w' _=>ZbL 15 w') ?_)|(refine Zac (fun w' _=>ZbL 9 w') ?_)|(refine Zac (fun w' _=>ZaD 31 w') ?_)|(refine Zac (fun w' _=>ZaD 29 w') ?_)|(refine Zac (fun w' _=>ZaD 1 w') ?_)|(refine Zac (fun w' _=>Zax 3 3 0 15 7200 0 w') ?_)|(refine Zac (fun w' _=>Zax 10 1 0 31 7200 0 w') ?_)|(refine Zac (fun w' _=>Zax 2 1 0 29 0 0 w') ?_)|(refine Zac (fun w' _=>Zax 3 3 0 9 0 0 w') ?_)|(refine Zac d1 ?_)|(refine Zac d2 ?_)|(refine Zac f1 ?_)|(refine Zac f2 ?_)|(refine Zac f3 ?_)|(refine bx ?_;intro bk)|(refine stA ?_));first|refine⟨_,EndsA,QFFtW0,?_⟩|refine fin ?_)|(refine jn ?_;(try intro F);(first|(refine bx ?_;intro bk)|(refine stA ?_)|(apply Zae;first|exact Zyy|exact PuA));first|refine⟨_,EndsA,QFFtW0,?_⟩|refine fin ?_)|(apply RD_W;rfl;intro bk))
 rename_i x1 x2 x3 x4 x5 be1 bz1 x8 be2 bz2 x11
 clear d1 d2 f1 f2 f3
 repeat (first|refine walk ?_|(refine jg ?_;(try intro F);(first|(apply Zag (h:=fun w' _ _=>Zt0 w');rfl;rintro v O' ⟨br,be,bz,rfl,rfl⟩)|(refine Za1 (fun w' hw hO=>Zt1 br bz w' (hL.up hw) (hG.up hw) (hF.up hw) (ZyJ (Zk9 (l:=[ZpE,ZeC,ZjY]) Zab.len (Nat.le_refl 3) (by decide) (hO.of (A := .blk br _ _) (by repeat' constructor))) (hO.of (A := .blk bz _ _) (by repeat' constructor)) (Zk9 (l:=[ZfR,Zd2]) DEra.len (Nat.le_refl 2) (by decide) (hO.of (A := .blk be _ _) (by repeat' constructor))))) ?_)|(refine Za1 (fun w' hw hO=>Zwr bz1 w' (hL.up hw) (hG.up hw) (ZyJ (Zok _ _ _) (hO.of (A := .blk bz1 _ _) (by repeat' constructor)) (Zk9 (l:=[Zd1]) DEra.len (Nat.le_refl 1) (by decide) (hO.of (A := .blk be1 _ _) (by repeat' constructor))))) ?_)|(refine Za1 (fun w' hw hO=>Zv4 bz2 w' (hL.up hw) (hG.up hw) (ZyJ (Zok _ _ _) (hO.of (A := .blk bz2 _ _) (by repeat' constructor)) (Zk9 (l:=[Zia,Zd0]) DEra.len (Nat.le_refl 2) (by decide) (hO.of (A := .blk be2 _ _) (by repeat' constructor))))) ?_)|(refine bx ?_;intro bk)|(refine stA ?_));refine fin ?_)|(refine jn ?_;(try intro F);(first|(refine bx ?_;intro bk)|(refine stA ?_)|(apply Zae;exact PuA));refine fin ?_)|(apply RD_W;rfl;intro bk))
 exact rtA
end Go.Proofs.YtdlmhmmhdbbliaaGreatDoor
