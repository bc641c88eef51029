/- Parts of the proof. -/
import Derived.Test.YtdlmhmmhdbbliaaGreatDoorV30
import Derived.Test.YtdlmhmmhdbbliaaGreatDoorV37
import Derived.Test.YtdlmhmmhdbbliaaGreatDoorV38
import Derived.Test.YtdlmhmmhdbbliaaGreatDoorV41
import Derived.Test.YtdlmhmmhdbbliaaGreatDoorV36
import Derived.Test.YtdlmhmmhdbbliaaGreatDoorV42
import Derived.Test.YtdlmhmmhdbbliaaGreatDoorV28
set_option maxHeartbeats 4000000
set_option linter.unusedVariables false
set_option linter.unusedSimpArgs false
namespace Go.Proofs.YtdlmhmmhdbbliaaGreatDoor
open Go Go.RowKit Go.Wk
attribute [local irreducible] W RL Does Zau Zak retQ Calls Pu Stp RD Qy Ay Zaj ZbD
theorem Zz1 {P:Program}{n:Nat}{wr:World}{fr:Fr}{O:List It}{ty t t':TypeId}{x y:Operand}{i j k:Int}(hx:ev fr x=some (.int .i64 i))(hy:ev fr y=some (.int .i64 j))(h : -9223372036854775808<=i+j/\i+j<=9223372036854775807)(hk:i+j=k):Pu P n wr fr O (.binOp .add t x y t') ty (.int .i64 k):=hk▸Pu_add hx hy h
theorem Zz4 {Zs:List ZE}{zs:List Za5}(h:Zs.map ZE.z=zs){j:Nat}{z:Za5}(hg:zs[j]?=some z):∃ q,Zs[j]?=some q/\q.z=z:=by
 subst h
 rw[List.getElem?_map]at hg
 cases hq:Zs[j]? with
 | none=>rw[hq]at hg;cases hg
 | some q =>
  rw[hq]at hg
  exact⟨q,rfl,Option.some.inj hg⟩
theorem ZnP {G:Prop}(h:G:=by(apply Zaw;rfl;rfl;exact t0)):G:=h
theorem ZnO {G:Prop}(h:G:=by(first|(apply ZcQ;rfl;rfl;(constructor <;> omega))|(apply Zaz;rfl;rfl;exact b0))):G:=h
theorem ZjC {G:Prop}(h:G:=by(first|(apply Zz1;rfl;rfl;(constructor <;> omega);exact ht)|(apply Pu_add;rfl;rfl;(constructor <;> omega))|(apply ZcQ;rfl;rfl;(constructor <;> omega))|(apply ZaI;rfl;rfl;omega;omega;(intro w' _ hO;exact ZpQ (hO.of (A:=rowZ Z1 z1 Zs1) (by repeat' constructor)) (by omega)))|(apply Zju;rfl;(focus repeat' constructor);exact hz1)|(apply Zaz;rfl;rfl;exact b0)|(apply Zpd (i:=(⟨lo,ld,la⟩:Zdq)) (j:=⟨lo,ld,la⟩) (enc:=Zdq.enc);rfl;rfl;exact nE)|(apply Zaw;rfl;rfl;exact b1)|(apply Zjx (i:=(⟨p1,p2,p3,p4,⟨p5,p6,p7,p8,p9⟩,⟨q1,q2,q3,q4,q5⟩⟩:ZaQ)) (j:=⟨p1,p2,p3,p4,⟨p5,p6,p7,p8,p9⟩,⟨q1,q2,q3,q4,q5⟩⟩) (enc:=ZaQ.enc);rfl;rfl;exact decide_eq_true rfl))):G:=h
theorem Znw {G:Prop}(h:G:=by first|(apply Qy_y;rfl;exact ZjC)|exact QyA):G:=h
theorem Zny {G:Prop}(h:G:=by repeat (first|exact QF.nil|(apply QF.mk;rfl;rfl;decide +kernel;exact Znw))):G:=h
set_option maxHeartbeats 8000000 in
theorem ZiN (As Az Al:Option Addr)(cs cz cl:Nat)(d:DD23)(zone sec yrs:Int)(w:World)(hL:LibW w)(hG:Glob w)(hF:FtG w)(hM:MeG w)(hP:PowT w)(hU:UnG w)(hS:RdLL w As cs Zez 1 d.sets)(hZ:RdLL w Az cz E23.enc 8 d.zones)(hD:RdSl w Al cl Zez 1 d.links)(hrs:∀ l∈d.sets,∀ x∈l,inR .u8 x)(hrz:∀ l∈d.zones,∀ x∈l,x.ok)(hrl:∀ x∈d.links,inR .u8 x)(hzn:inR .u8 zone)(hsn:inR .u32 sec)(hyn:inR .u16 yrs) :
  Does Tryz.prog 4 [d23V As Az Al cs cz cl d,.int .u8 zone,.int .u32 sec,.int .u16 yrs] w (fun v O=>v = .bool true/\O=[]):=by
 have hwk:=fun w' (hw:Bel w.heap.size w w')=>ZlV w' (hL.up hw) (hG.up hw) (hF.up hw)
 have hmk:=fun w' (hw:Bel w.heap.size w w')=>(Zop As Az Al cs cz cl d w' (hS.up hw) (hZ.up hw) (hD.up hw) hrs hrz hrl).monoO fun _ _ h=>Ztf h
 have hac:=Zkg d
 have hm:=mn23 d
 have hsm:=Zrk d
 have hzs:=ZcC d
 have h12:=ZAq d
 have hnz:1<=(ZbD d).zones.length:=by
  rw[ZiA]
  exact(Ze7 d.zones).1
 generalize ZbD d=s at *
 rw[Zkn]at hzn
 have hzl:s.zones.length<=100:=hsm.nz
 obtain⟨m,hm0⟩:∃ m:Nat,(m:Int)=zone % s.zones.length:=⟨(zone % s.zones.length).toNat,by
  have:=Int.emod_nonneg zone (b:=s.zones.length) (by omega)
  omega⟩
 have hmz:m<s.zones.length:=by
  have:=Int.emod_lt_of_pos zone (b:=s.zones.length) (by omega)
  omega
 obtain⟨z,hz⟩:∃ z,s.zones[m]?=some z:=⟨_,List.getElem?_eq_getElem hmz⟩
 obtain⟨Y,hY⟩:=hzs z (List.mem_of_getElem? hz)
 obtain⟨g1,g2,_,_⟩:=ZkV hY
 have hlen:=hY.len
 have hne:z.eras≠[]:=fun h=>by rw[h]at hlen;simp at hlen
 have hlaw:=fun{u}=>Zzl hY (t:=u)
 have hrt:=ZpZ hY
 have hyr:=fun R1 Z1 L1 H1 r1 z1 l1 h1 w' (hw:Bel w.heap.size w w') (hA:Zav w' R1 Z1 L1 H1 r1 z1 l1 h1 s)=>ZkU R1 Z1 L1 H1 r1 z1 l1 h1 s m z w' (hsm.acc (hL.up hw) (hG.up hw) hA) hac hz hne (by omega)
 have hof:=fun R1 Z1 L1 H1 r1 z1 l1 h1 w' (hw:Bel w.heap.size w w') (hA:Zav w' R1 Z1 L1 H1 r1 z1 l1 h1 s)=>ZBo R1 Z1 L1 H1 r1 z1 l1 h1 s m z Y w' (hsm.acc (hL.up hw) (hG.up hw) hA) (hF.up hw) hac hz hY
 -- February 1 of a year behind
 obtain⟨y,hy⟩:∃ y,Zch s z.eras=y:=⟨_,rfl⟩
 rw[hy]at g1 g2 hlaw hyr
 have hsb:0<=sec/\sec<=4294967295:=hsn
 have hyb:0<=yrs/\yrs<=65535:=hyn
 obtain⟨Y1,hY1⟩:∃ Y1,y+1+yrs=Y1:=⟨_,rfl⟩
 have hok:ZaL Y1 2 1=true:=by
  have:=Zf4 Y1 2 (by decide) (by decide)
  unfold ZaL inY
  simp
  omega
 have hdy:=fun w' (hw:Bel w.heap.size w w')=>Zdj Y1 2 1 w' (hG.up hw)
 rw[if_pos hok,if_pos hok]at hdy
 have hdb:=Zfl hok
 have hj:=Zna Y1 2 (by decide) (by decide)
 have hjm:=ZiJ (show y+1<=Y1 by omega)
 have hjh:jan1 Y1<=30000000:=Int.le_trans (ZiJ (show Y1<=70000 by omega)) (by decide)
 obtain⟨D,hD0⟩:∃ D,Zan Y1 2 1=D:=⟨_,rfl⟩
 rw[hD0]at hdy hdb hj
 have hj2:=Zfh (z:=y+1) (by omega)
 obtain⟨t,ht⟩:∃ t,86400*D+sec=t:=⟨_,rfl⟩
 have htk:tOk t=true:=Zih.2 (by omega)
 have heq:=hlaw (u:=t) (by omega) (by omega)
 obtain⟨i0,hzd⟩:∃ i0:Unit,ZkS s z.name=(((m:Nat):Int),0):=⟨(),ZqP hac hz⟩
 have kat:=fun R1 Z1 L1 H1 r1 z1 l1 h1 w' (hw:Bel w.heap.size w w') (hA:Zav w' R1 Z1 L1 H1 r1 z1 l1 h1 s)=>mAt R1 Z1 L1 H1 r1 z1 l1 h1 s z.name t w' (hsm.acc (hL.up hw) (hG.up hw) hA) (hM.up hw) (by omega) hm htk hzd hz
 have hpx:=fun w' (hw:Bel w.heap.size w w')=>ZsR (ofF s z.eras) t hrt htk w' (hL.up hw) (hG.up hw)
 rw[heq]at hpx
 have hps:=Zws hY
 have hck:=fun w'=>Zfb (ofF s z.eras) hrt w'
 have hpr:=fun w' (hw:Bel w.heap.size w w')=>Zmh (ofF s z.eras) hrt hps w' (hP.up hw)
 have hpa:=fun w' (hw:Bel w.heap.size w w')=>Zmm (ofF s z.eras) hrt hps w' (hP.up hw) (hU.up hw)
 generalize prL (ofF s z.eras)=pl at hpr hpa
 generalize ofF s z.eras=p at *
 generalize Zro s.rules z.eras t=lc at *
 clear heq hrt hlaw hps hjh hjm
 obtain⟨p1,p2,p3,p4,⟨p5,p6,p7,p8,p9⟩,⟨q1,q2,q3,q4,q5⟩⟩:=p
 obtain⟨lo,ld,la⟩:=lc
 simp only[ZaQ.enc,Zdq.enc]at hof hpx kat hck hpr hpa
 have b1:decide ((0:Int)=0)=true:=rfl
 have nE:(!decide ((⟨lo,ld,la⟩:Zdq)=⟨lo,ld,la⟩))=false:=by rw[decide_eq_true rfl];rfl
 have b0:(!decide ((0:Int)=0))=false:=rfl
 have t0:decide ((s.zones.length:Int)=0)=false:=decide_eq_false (by omega)
 refine Zaa Tryz.func4 rfl rfl rfl rfl ?_
 repeat (first|(apply RL_pu;rfl;exact ZnP)|(apply RD_Q;rfl;rfl;decide +kernel;rfl;rfl;exact QyFtSays0)|refine walk1 ?_|(refine jg ?_;(try intro F);(first|(apply Zag (h:=fun w' hw _=>hmk w' hw);rfl;rintro v O' ⟨R1,r1,Z1,z1,L1,l1,H1,h1,Zs1,S1,rfl,hZ1,rfl⟩)|(refine bx ?_;intro bk)|(refine stA ?_));first|refine⟨_,EndsA,QFFtSays0,?_⟩|refine fin ?_)|(refine jn ?_;(try intro F);(first|(refine bx ?_;intro bk)|(refine stA ?_)|(apply Zae;first|exact ZnP|exact PuA));first|refine⟨_,EndsA,QFFtSays0,?_⟩|refine fin ?_)|(apply RD_W;rfl;intro bk))
 rw[<- hm0]
 obtain⟨q,hq,hqe⟩:=Zz4 hZ1 hz
 subst hqe
 have hjl:m<Zs1.length:=(List.getElem?_eq_some_iff.1 hq).1
 have hz1:(Zs1.flatMap ZE.enc)[((m:Int)).toNat*2]?=some (.string q.z.name):=ZaF ZE.len Zs1 m q 0 _ hq rfl
 clear hmk hac hzs hS hZ hD hY hne
 repeat (first|refine und ?_|(apply RL_pu;rfl;exact ZnO)|(apply RD_Q;rfl;rfl;decide +kernel;rfl;rfl;exact QyFtSays1)|refine walk1 ?_|(refine jg ?_;(try intro F);(first|(refine Za1 (fun w' hw hO=>hof R1 Z1 L1 H1 r1 z1 l1 h1 w' hw (ZsA hZ1 (hO.of (A:=rowR R1 r1 _) (by repeat' constructor)) (hO.of (A:=rowZ Z1 z1 _) (by repeat' constructor)) (hO.of (A:=rowL L1 l1 _) (by repeat' constructor)) (hO.of (A:=rowS H1 h1 _) (by repeat' constructor)) (hO.of (A := .fact S1 (ZjJ Zs1)) (by repeat' constructor)))) ?_)|(refine Za1 (fun w' hw hO=>hyr R1 Z1 L1 H1 r1 z1 l1 h1 w' hw (ZsA hZ1 (hO.of (A:=rowR R1 r1 _) (by repeat' constructor)) (hO.of (A:=rowZ Z1 z1 _) (by repeat' constructor)) (hO.of (A:=rowL L1 l1 _) (by repeat' constructor)) (hO.of (A:=rowS H1 h1 _) (by repeat' constructor)) (hO.of (A := .fact S1 (ZjJ Zs1)) (by repeat' constructor)))) ?_)|(refine Zac (fun w' _=>hck w') ?_)|(refine bx ?_;intro bk)|(refine stA ?_));first|refine⟨_,EndsA,QFFtSays1,?_⟩|refine fin ?_)|(refine jn ?_;(try intro F);(first|(refine bx ?_;intro bk)|(refine stA ?_)|(apply Zae;first|exact ZnO|exact PuA));first|refine⟨_,EndsA,QFFtSays1,?_⟩|refine fin ?_)|(apply RD_W;rfl;intro bk))
 rw[hY1]
 repeat (first|refine und ?_|(apply RL_pu;rfl;exact ZjC)|(apply RD_Q;rfl;rfl;decide +kernel;rfl;rfl;exact Znw)|refine walk1 ?_|(refine jg ?_;(try intro F);(first|(refine Zac hdy ?_)|(refine Za1 (fun w' hw hO=>kat R1 Z1 L1 H1 r1 z1 l1 h1 w' hw (ZsA hZ1 (hO.of (A:=rowR R1 r1 _) (by repeat' constructor)) (hO.of (A:=rowZ Z1 z1 _) (by repeat' constructor)) (hO.of (A:=rowL L1 l1 _) (by repeat' constructor)) (hO.of (A:=rowS H1 h1 _) (by repeat' constructor)) (hO.of (A := .fact S1 (ZjJ Zs1)) (by repeat' constructor)))) ?_)|(refine Zac hpx ?_)|(refine Zac hpr ?_)|(refine Zac hpa ?_)|(refine Zac hwk ?_)|(refine bx ?_;intro bk)|(refine stA ?_));first|refine⟨_,EndsA,Zny,?_⟩|refine fin ?_)|(refine jn ?_;(try intro F);(first|(refine bx ?_;intro bk)|(refine stA ?_)|(apply Zae;first|exact ZjC|exact PuA));first|refine⟨_,EndsA,Zny,?_⟩|refine fin ?_)|(apply RD_W;rfl;intro bk))
 exact rtA
end Go.Proofs.YtdlmhmmhdbbliaaGreatDoor
