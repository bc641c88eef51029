/- Parts of the proof. -/
import Derived.Test.YtbjomhdhkpgbaaaGreatDoorV30
import Derived.Test.YtbjomhdhkpgbaaaGreatDoorV08
import Derived.Test.YtbjomhdhkpgbaaaGreatDoorV27
import Derived.Test.YtbjomhdhkpgbaaaGreatDoorV29
import Derived.Test.YtbjomhdhkpgbaaaGreatDoorV07
import Derived.Test.YtbjomhdhkpgbaaaGreatDoorV06
import Derived.Test.YtbjomhdhkpgbaaaGreatDoorV24
import Derived.Test.YtbjomhdhkpgbaaaGreatDoorV14
import Derived.Test.YtbjomhdhkpgbaaaGreatDoorV15
import Derived.Test.YtbjomhdhkpgbaaaGreatDoorV09
set_option maxHeartbeats 4000000
set_option linter.unusedVariables false
set_option linter.unusedSimpArgs false
set_option maxHeartbeats 4000000
namespace Go.Proofs.YtbjomhdhkpgbaaaGreatDoor
open Go Go.RowKit Go.Wk
attribute [local irreducible] W RL Does Zar Zal retQ Calls Pu Stp RD Qy Ay Zak RW
theorem ZrA (base:Int)(f:ByteArray)(w:World):Does Tryz.prog 33 [.int .i64 base,.string f] w (fun v O=>∃ bR bE bZ,v = .agg #[.slice (some ⟨bR,0,none⟩) 3 3,.slice (some ⟨bZ,0,none⟩) 1 1,.slice none 0 0,.slice none 0 0]/\O=[.blk bR (.string eirT :: .int .i64 1971 :: .int .i64 1971 :: .int .i64 10 :: .int .i64 1 :: .int .i64 0 :: .int .i64 31 :: .int .i64 7200 :: .int .i64 base :: .int .i64 (-3600) :: .string ByteArray.empty :: .string eirT :: .int .i64 1972 :: .int .i64 1048576 :: .int .i64 3 :: .int .i64 3 :: .int .i64 0 :: .int .i64 15 :: .int .i64 7200 :: .int .i64 2 :: .int .i64 0 :: .string ByteArray.empty :: .string eirT :: .int .i64 1972 :: .int .i64 1048576 :: .int .i64 10 :: .int .i64 2 :: .int .i64 0 :: .int .i64 0 :: .int .i64 3600 :: .int .i64 2 :: .int .i64 (-3600) :: .string ByteArray.empty::[]) 56,.blk bE (.int .i64 0 :: .int .i64 0 :: .int .i64 0 :: .string ByteArray.empty :: .string gmtF :: .bool true :: .int .i64 1968 :: .int .i64 10 :: .int .i64 1 :: .int .i64 0 :: .int .i64 27 :: .int .i64 0 :: .int .i64 0 :: .int .i64 3600 :: .int .i64 2 :: .int .i64 0 :: .string eirT :: .string f :: .bool false :: .int .i64 0 :: .int .i64 0 :: .int .i64 0 :: .int .i64 0 :: .int .i64 0 :: .int .i64 0 :: .int .i64 0::[]) 54,.blk bZ [.string dblT,.slice (some ⟨bE,0,none⟩) 2 2] 46]) :=
 (Zk4 base f w).monoO fun v O ⟨bR,bE,bZ,h1,h2⟩=>⟨O,⟨bR,bE,bZ,h1,h2⟩,fun _ _ h=>h⟩
def ZBg (base:Int)(f:ByteArray)(sec:Int)(v:Value)(O:List It):Prop:=∃ bR bE bZ bS,v=srcV (some ⟨bR,0,none⟩) (some ⟨bZ,0,none⟩) none (some ⟨bS,0,none⟩) 3 1 0 1 (dubT base sec f)/\O=[.blk bR ((dubT base sec f).rules.flatMap Zab.enc) 56,.blk bE ((dubT base sec f).zones.flatMap fun z=>z.eras.flatMap DEra.enc) 54,.blk bZ [.string dblT,.slice (some ⟨bE,0,none⟩) 2 2] 46,.blk bS [.string eirT] 9]
theorem Zgy {G:Prop}(h:G:=by(first|(apply Za2;rfl;rfl;exact lt1)|(apply Za2;rfl;rfl;exact lt2)|(apply Za2;rfl;rfl;exact lt3)|(apply Za2;rfl;rfl;exact lt4)|(apply Pu_indexAddr;rfl;rfl;decide;decide;exact Option.some_ne_none _)|(apply Pu_add;rfl;rfl;(constructor <;> decide)))):G:=h
theorem Zxk {G:Prop}(h:G:=by(first|exact Zgy|(apply ZaA;rfl;rfl;exact e1))):G:=h
theorem ZoX (f:ByteArray)(w:World):Does Tryz.prog 34 [.int .i64 1,.string f] w (ZBg 1 f 3600):=by
 have hdu:=fun w'=>ZrA 1 f w'
 refine Zaa Tryz.func34 rfl rfl rfl rfl ?_
 repeat (first|(refine js ?_;(first|(apply Zad (h:=fun w' _ _=>hdu w');rfl;rintro v O' ⟨bR,bE,bZ,rfl,rfl⟩)|(refine bx ?_;intro bk)))|refine walk ?_)
 have lt1:decide ((0:Int)<(3:Nat))=true:=rfl
 have lt2:decide ((0:Int)+1<(3:Nat))=true:=rfl
 have lt3:decide ((0:Int)+1+1<(3:Nat))=true:=rfl
 have lt4:decide ((0:Int)+1+1+1<(3:Nat))=false:=rfl
 have e1:decide ((1:Int)=1)=true:=rfl
 refine Ziy 4 (ZbY ?_)
 repeat (first|(apply RL_pu;rfl;exact Zgy)|(refine js ?_;(refine bx ?_;intro bk))|refine walk1 ?_)
 refine ZbY ?_
 repeat (first|(apply RL_pu;rfl;exact Zgy)|(refine js ?_;(refine bx ?_;intro bk))|refine walk1 ?_)
 refine ZbY ?_
 repeat (first|(apply RL_pu;rfl;exact Zgy)|(refine js ?_;(refine bx ?_;intro bk))|refine walk1 ?_)
 refine ZbY ?_
 repeat (first|(apply RL_pu;rfl;exact Zxk)|(refine js ?_;(refine bx ?_;intro bk))|refine walk1 ?_)
 exact ret_1 _ _ (.cellB rfl (by repeat' constructor) rfl rfl) SOA ⟨_,_,_,_,rfl,rfl⟩
theorem ZoW (f:ByteArray)(w:World):Does Tryz.prog 34 [.int .i64 2,.string f] w (ZBg 2 f 7200):=by
 have hdu:=fun w'=>ZrA 2 f w'
 refine Zaa Tryz.func34 rfl rfl rfl rfl ?_
 repeat (first|(refine js ?_;(first|(apply Zad (h:=fun w' _ _=>hdu w');rfl;rintro v O' ⟨bR,bE,bZ,rfl,rfl⟩)|(refine bx ?_;intro bk)))|refine walk ?_)
 have lt1:decide ((0:Int)<(3:Nat))=true:=rfl
 have lt2:decide ((0:Int)+1<(3:Nat))=true:=rfl
 have lt3:decide ((0:Int)+1+1<(3:Nat))=true:=rfl
 have lt4:decide ((0:Int)+1+1+1<(3:Nat))=false:=rfl
 have e1:decide ((2:Int)=1)=false:=rfl
 refine Ziy 4 (ZbY ?_)
 repeat (first|(apply RL_pu;rfl;exact Zgy)|(refine js ?_;(refine bx ?_;intro bk))|refine walk1 ?_)
 refine ZbY ?_
 repeat (first|(apply RL_pu;rfl;exact Zgy)|(refine js ?_;(refine bx ?_;intro bk))|refine walk1 ?_)
 refine ZbY ?_
 repeat (first|(apply RL_pu;rfl;exact Zgy)|(refine js ?_;(refine bx ?_;intro bk))|refine walk1 ?_)
 refine ZbY ?_
 repeat (first|(apply RL_pu;rfl;exact Zxk)|(refine js ?_;(refine bx ?_;intro bk))|refine walk1 ?_)
 exact ret_1 _ _ (.cellB rfl (by repeat' constructor) rfl rfl) SOA ⟨_,_,_,_,rfl,rfl⟩
end Go.Proofs.YtbjomhdhkpgbaaaGreatDoor
namespace Go.Proofs.YtbjomhdhkpgbaaaGreatDoor
open Go Go.RowKit Go.Wk
def mlB (n:Int):Bool:=decide (-1000000<=n)&&decide (n<=1000000)
theorem ZA4 {n:Int}:mlB n=true↔-1000000<=n/\n<=1000000:=by unfold mlB;simp
def smlB (s:Zac):Bool :=
 decide (s.rules.length<=100)&&(decide (s.zones.length<=100)&&(decide (s.links.length<=100)&&(decide (s.shifts.length<=100) &&
 ((s.rules.all fun r=>decide (r.name.size<=100)&&(decide (r.letter.size<=100)&&mlB r.save)) &&
 ((s.zones.all fun z=>decide (z.name.size<=100)&&(decide (z.eras.length<=100)&&z.eras.all fun e=>decide (e.set.size<=100)&&(decide (e.format.size<=100)&&(mlB e.off&&(mlB e.save&&mlB e.kind))))) &&
 (s.links.all fun l=>decide (l.target.size<=100)&&decide (l.name.size<=100)))))))
theorem ZlE {s:Zac}(h:smlB s=true):Sml s:=by
 unfold smlB at h
 simp only[Bool.and_eq_true,decide_eq_true_eq,List.all_eq_true,ZA4]at h
 obtain⟨h1,h2,h3,h4,h5,h6,h7⟩:=h
 exact⟨h1,h2,h3,h4,h5,fun z hz=>by
  obtain⟨a1,a2,a3⟩:=h6 z hz
  exact⟨a1,a2,fun e he=>by
   obtain⟨b1,b2,b3,b4,b5⟩:=a3 e he
   exact⟨b1,b2,b3,b4,b5⟩⟩,h7⟩
theorem Zft:smlB (dub 2 istF)=true/\smlB (dub 1 istF)=true/\smlB (dub 2 pctB)=true/\smlB (dubT 1 3600 tsiF)=true/\smlB (dubT 2 7200 pctB)=true:=by decide +kernel
theorem Zrq {s t:Zac}{form:Int}(h:goes s form t=true):accD s=none/\Zc0 s≠[]/\toB form s=true/\toD form s=t:=by
 unfold goes at h
 simp only[Bool.and_eq_true,decide_eq_true_eq,Bool.not_eq_true',decide_eq_false_iff_not]at h
 exact⟨h.1,h.2.1,h.2.2.1,h.2.2.2⟩
end Go.Proofs.YtbjomhdhkpgbaaaGreatDoor
set_option maxHeartbeats 8000000
namespace Go.Proofs.YtbjomhdhkpgbaaaGreatDoor
open Go Go.RowKit Go.Wk
attribute [local irreducible] W RL Does Zar Zal retQ Calls Pu Stp RD Qy Ay Zak
theorem Zl3 (base:Int)(f:ByteArray)(w:World):Does Tryz.prog 33 [.int .i64 base,.string f] w (Zhk (dub base f)):=(ZpU base f w).monoO fun _ _ h=>ZcX h
theorem ZmQ {base sec:Int}{f:ByteArray}{v:Value}{O:List It}(h:ZBg base f sec v O):∃ O',Zd4 (dubT base sec f) v O'/\∀ base w',Zau base O w'->Zau base O' w':=by
 obtain⟨bR,bE,bZ,bS,h1,h2⟩:=h
 subst h1 h2
 refine⟨_,⟨_,_,_,_,none,0,_,_,[⟨⟨dblT,[dubE,⟨0,2,0,eirT,f,noU⟩]⟩,some ⟨bE,0,none⟩,2⟩],rfl,rfl,rfl⟩,fun b w' hH=>?_⟩
 have h:=Zux (s:=dubT base sec f) (nm:=dblT) (es:=[dubE,⟨0,2,0,eirT,f,noU⟩]) (n:=3) (m:=2) (O:=[.blk bS [.string eirT] 9]) rfl rfl rfl (by decide) (by decide) rfl hH
 have h2:=h.toRow (m:=1) 1 rfl (by decide) (.there (.there (.there (.there .here))))
 exact h2.sub SOA
theorem ZxH (f:ByteArray)(w:World):Does Tryz.prog 34 [.int .i64 1,.string f] w (Zhk (dubT 1 3600 f)):=((ZoX f w).monoO fun _ _ h=>ZmQ h).monoO fun _ _ h=>ZcX h
theorem Zlz (f:ByteArray)(w:World):Does Tryz.prog 34 [.int .i64 2,.string f] w (Zhk (dubT 2 7200 f)):=((ZoW f w).monoO fun _ _ h=>ZmQ h).monoO fun _ _ h=>ZcX h
theorem ZqU {s:Zac}(h:Sml s):Fits s:=⟨by have:=h.nr;omega,by have:=h.nz;omega,by have:=h.nl;omega,by have:=h.ns;omega,fun z hz=>by have:=(h.zs z hz).2.1;omega⟩
theorem toT (Ar Az Al As:Option Addr)(cr cz cl cs:Nat)(a:Zac)(form:Int)(Br Bz Bl Bs:Option Addr)(dr dz dl ds:Nat)(b:Zac)(w:World)(hL:LibW w)(hG:Glob w)(hs:smlB a=true)(hg:goes a form b=true)(hform:form=1\/form=2\/form=3)(hA:Zan w Ar Az Al As cr cz cl cs a)(hB:Zan w Br Bz Bl Bs dr dz dl ds b) :
  Does Tryz.prog 11 [srcV Ar Az Al As cr cz cl cs a,.int .i64 form,srcV Br Bz Bl Bs dr dz dl ds b] w (fun v O=>v = .bool true/\O=[]):=by
 obtain⟨g1,g2,g3,g4⟩:=Zrq hg
 have h:=Zt2 Ar Az Al As cr cz cl cs a form Br Bz Bl Bs dr dz dl ds b w ((ZlE hs).acc hL hG hA) (ZqU (ZlE hs)) hform g1 g2 g3 hB
 rw[decide_eq_true g4]at h
 exact h
theorem ZBq:toE 2 (dubT 2 7200 pctB)=some (⟨4,0,0⟩,17):=by
 obtain⟨h1,h2,h3⟩:=ZBf
 unfold toE
 rw[h1]
 dsimp only
 rw[if_pos h2,h3]
theorem ZyJ:toE 4 (dub 2 istF)=some (⟨0,0,0⟩,2):=by
 obtain⟨h1,h2,_⟩:=Zrq ZeF.1
 unfold toE
 rw[h1]
 dsimp only
 rw[if_neg h2,if_pos (by decide)]
theorem Zmv {G:Prop}(h:G:=by(first|(apply Zmt (p:=⟨4,0,0⟩) (q:=⟨4,0,0⟩);rfl;rfl;rfl)|(apply Zmt (p:=⟨0,0,0⟩) (q:=⟨0,0,0⟩);rfl;rfl;rfl)|(apply ZaA;rfl;rfl;exact q17)|(apply ZaA;rfl;rfl;exact q2))):G:=h
theorem ZrZ {G:Prop}(h:G:=by first|(apply Qy_y;rfl;exact Zmv)|exact QyA):G:=h
theorem Zr3 {G:Prop}(h:G:=by repeat (first|exact QF.nil|(apply QF.mk;rfl;rfl;decide +kernel;exact ZrZ))):G:=h
theorem ZmJ (w:World)(hL:LibW w)(hG:Glob w):Does Tryz.prog 12 [] w (fun v O=>v = .bool true/\O=[]):=by
 have q17:decide ((17:Int)=17)=true:=rfl
 have q2:decide ((2:Int)=2)=true:=rfl
 refine Zaa Tryz.func12 rfl rfl rfl rfl ?_
 repeat (first|(apply RL_pu;rfl;exact Zmv)|(apply RD_Q;rfl;rfl;decide +kernel;rfl;rfl;exact ZrZ)|refine walk1 ?_|(refine jg ?_;(try intro F);(first|(apply Zad (h:=fun w' _ _=>Zl3 2 istF w');rfl;rintro v O' ⟨Ra,ra,Za,za,La,la,Ha,ha,Qa,Fa,rfl,hZa,rfl⟩)|(apply Zad (h:=fun w' _ _=>Zl3 1 istF w');rfl;rintro v O' ⟨Rb,rb,Zb,zb,Lb,lb,Hb,hb,Qb,Fb,rfl,hZb,rfl⟩)|(apply Zad (h:=fun w' _ _=>Zl3 2 pctB w');rfl;rintro v O' ⟨Rc,rc,Zc,zc,Lc,lc,Hc,hc,Qc,Fc,rfl,hZc,rfl⟩)|(apply Zad (h:=fun w' _ _=>Zlz pctB w');rfl;rintro v O' ⟨Rd,rd,Zd,zd,Ld,ld,Hd,hd,Qd,Fd,rfl,hZd,rfl⟩)|(refine ZaX (fun w' hw hO=>ZkA Rd Zd Ld Hd rd zd ld hd (dubT 2 7200 pctB) 2 (⟨4,0,0⟩,17) w' ((ZlE Zft.2.2.2.2).acc (hL.up hw) (hG.up hw) (Zbt hZd (hO.of (A:=rowR Rd rd (dubT 2 7200 pctB).rules) (by repeat' constructor)) (hO.of (A:=rowZ Zd zd Qd) (by repeat' constructor)) (hO.of (A:=rowL Ld ld (dubT 2 7200 pctB).links) (by repeat' constructor)) (hO.of (A:=rowS Hd hd (dubT 2 7200 pctB).shifts) (by repeat' constructor)) (hO.of (A := .fact Fd (ZaN Qd)) (by repeat' constructor)))) ZBq) ?_)|(refine ZaX (fun w' hw hO=>ZkA Ra Za La Ha ra za la ha (dub 2 istF) 4 (⟨0,0,0⟩,2) w' ((ZlE Zft.1).acc (hL.up hw) (hG.up hw) (Zbt hZa (hO.of (A:=rowR Ra ra (dub 2 istF).rules) (by repeat' constructor)) (hO.of (A:=rowZ Za za Qa) (by repeat' constructor)) (hO.of (A:=rowL La la (dub 2 istF).links) (by repeat' constructor)) (hO.of (A:=rowS Ha ha (dub 2 istF).shifts) (by repeat' constructor)) (hO.of (A := .fact Fa (ZaN Qa)) (by repeat' constructor)))) ZyJ) ?_)|(apply Zad (h:=fun w' _ _=>Zlz tsiF w');rfl;rintro v O' ⟨Re,re,Ze,ze,Le,le,He,he,Qe,Fe,rfl,hZe,rfl⟩)|(apply Zad (h:=fun w' _ _=>ZxH tsiF w');rfl;rintro v O' ⟨Rg,rg,Zg,zg,Lg,lg,Hg,hg,Qg,Fg,rfl,hZg,rfl⟩)|(apply Zad (h:=fun w' _ _=>Zlz n10F w');rfl;rintro v O' ⟨Rh,rh,Zh,zh,Lh,lh,Hh,hh,Qh,Fh,rfl,hZh,rfl⟩)|(apply Zad (h:=fun w' _ _=>Zl3 2 n01F w');rfl;rintro v O' ⟨Ri,ri,Zi,zi,Li,li,Hi,hi,Qi,Fi,rfl,hZi,rfl⟩)|(refine ZaX (fun w' hw hO=>toT Ra Za La Ha ra za la ha (dub 2 istF) 3 Re Ze Le He re ze le he (dubT 2 7200 tsiF) w' (hL.up hw) (hG.up hw) Zft.1 ZeF.1 (.inr (.inr rfl)) (Zbt hZa (hO.of (A:=rowR Ra ra (dub 2 istF).rules) (by repeat' constructor)) (hO.of (A:=rowZ Za za Qa) (by repeat' constructor)) (hO.of (A:=rowL La la (dub 2 istF).links) (by repeat' constructor)) (hO.of (A:=rowS Ha ha (dub 2 istF).shifts) (by repeat' constructor)) (hO.of (A := .fact Fa (ZaN Qa)) (by repeat' constructor))) (Zbt hZe (hO.of (A:=rowR Re re (dubT 2 7200 tsiF).rules) (by repeat' constructor)) (hO.of (A:=rowZ Ze ze Qe) (by repeat' constructor)) (hO.of (A:=rowL Le le (dubT 2 7200 tsiF).links) (by repeat' constructor)) (hO.of (A:=rowS He he (dubT 2 7200 tsiF).shifts) (by repeat' constructor)) (hO.of (A := .fact Fe (ZaN Qe)) (by repeat' constructor)))) ?_)|(refine ZaX (fun w' hw hO=>toT Rb Zb Lb Hb rb zb lb hb (dub 1 istF) 3 Rg Zg Lg Hg rg zg lg hg (dubT 1 3600 tsiF) w' (hL.up hw) (hG.up hw) Zft.2.1 ZeF.2.1 (.inr (.inr rfl)) (Zbt hZb (hO.of (A:=rowR Rb rb (dub 1 istF).rules) (by repeat' constructor)) (hO.of (A:=rowZ Zb zb Qb) (by repeat' constructor)) (hO.of (A:=rowL Lb lb (dub 1 istF).links) (by repeat' constructor)) (hO.of (A:=rowS Hb hb (dub 1 istF).shifts) (by repeat' constructor)) (hO.of (A := .fact Fb (ZaN Qb)) (by repeat' constructor))) (Zbt hZg (hO.of (A:=rowR Rg rg (dubT 1 3600 tsiF).rules) (by repeat' constructor)) (hO.of (A:=rowZ Zg zg Qg) (by repeat' constructor)) (hO.of (A:=rowL Lg lg (dubT 1 3600 tsiF).links) (by repeat' constructor)) (hO.of (A:=rowS Hg hg (dubT 1 3600 tsiF).shifts) (by repeat' constructor)) (hO.of (A := .fact Fg (ZaN Qg)) (by repeat' constructor)))) ?_)|(refine ZaX (fun w' hw hO=>toT Rc Zc Lc Hc rc zc lc hc (dub 2 pctB) 3 Rh Zh Lh Hh rh zh lh hh (dubT 2 7200 n10F) w' (hL.up hw) (hG.up hw) Zft.2.2.1 ZeF.2.2.1 (.inr (.inr rfl)) (Zbt hZc (hO.of (A:=rowR Rc rc (dub 2 pctB).rules) (by repeat' constructor)) (hO.of (A:=rowZ Zc zc Qc) (by repeat' constructor)) (hO.of (A:=rowL Lc lc (dub 2 pctB).links) (by repeat' constructor)) (hO.of (A:=rowS Hc hc (dub 2 pctB).shifts) (by repeat' constructor)) (hO.of (A := .fact Fc (ZaN Qc)) (by repeat' constructor))) (Zbt hZh (hO.of (A:=rowR Rh rh (dubT 2 7200 n10F).rules) (by repeat' constructor)) (hO.of (A:=rowZ Zh zh Qh) (by repeat' constructor)) (hO.of (A:=rowL Lh lh (dubT 2 7200 n10F).links) (by repeat' constructor)) (hO.of (A:=rowS Hh hh (dubT 2 7200 n10F).shifts) (by repeat' constructor)) (hO.of (A := .fact Fh (ZaN Qh)) (by repeat' constructor)))) ?_)|(refine ZaX (fun w' hw hO=>toT Rc Zc Lc Hc rc zc lc hc (dub 2 pctB) 2 Ri Zi Li Hi ri zi li hi (dub 2 n01F) w' (hL.up hw) (hG.up hw) Zft.2.2.1 ZeF.2.2.2.1 (.inr (.inl rfl)) (Zbt hZc (hO.of (A:=rowR Rc rc (dub 2 pctB).rules) (by repeat' constructor)) (hO.of (A:=rowZ Zc zc Qc) (by repeat' constructor)) (hO.of (A:=rowL Lc lc (dub 2 pctB).links) (by repeat' constructor)) (hO.of (A:=rowS Hc hc (dub 2 pctB).shifts) (by repeat' constructor)) (hO.of (A := .fact Fc (ZaN Qc)) (by repeat' constructor))) (Zbt hZi (hO.of (A:=rowR Ri ri (dub 2 n01F).rules) (by repeat' constructor)) (hO.of (A:=rowZ Zi zi Qi) (by repeat' constructor)) (hO.of (A:=rowL Li li (dub 2 n01F).links) (by repeat' constructor)) (hO.of (A:=rowS Hi hi (dub 2 n01F).shifts) (by repeat' constructor)) (hO.of (A := .fact Fi (ZaN Qi)) (by repeat' constructor)))) ?_)|(refine ZaX (fun w' hw hO=>toT Ra Za La Ha ra za la ha (dub 2 istF) 2 Ra Za La Ha ra za la ha (dub 2 istF) w' (hL.up hw) (hG.up hw) Zft.1 ZeF.2.2.2.2.1 (.inr (.inl rfl)) (Zbt hZa (hO.of (A:=rowR Ra ra (dub 2 istF).rules) (by repeat' constructor)) (hO.of (A:=rowZ Za za Qa) (by repeat' constructor)) (hO.of (A:=rowL La la (dub 2 istF).links) (by repeat' constructor)) (hO.of (A:=rowS Ha ha (dub 2 istF).shifts) (by repeat' constructor)) (hO.of (A := .fact Fa (ZaN Qa)) (by repeat' constructor))) (Zbt hZa (hO.of (A:=rowR Ra ra (dub 2 istF).rules) (by repeat' constructor)) (hO.of (A:=rowZ Za za Qa) (by repeat' constructor)) (hO.of (A:=rowL La la (dub 2 istF).links) (by repeat' constructor)) (hO.of (A:=rowS Ha ha (dub 2 istF).shifts) (by repeat' constructor)) (hO.of (A := .fact Fa (ZaN Qa)) (by repeat' constructor)))) ?_)|(refine ZaX (fun w' hw hO=>toT Rg Zg Lg Hg rg zg lg hg (dubT 1 3600 tsiF) 1 Rb Zb Lb Hb rb zb lb hb (dub 1 istF) w' (hL.up hw) (hG.up hw) Zft.2.2.2.1 ZeF.2.2.2.2.2 (.inl rfl) (Zbt hZg (hO.of (A:=rowR Rg rg (dubT 1 3600 tsiF).rules) (by repeat' constructor)) (hO.of (A:=rowZ Zg zg Qg) (by repeat' constructor)) (hO.of (A:=rowL Lg lg (dubT 1 3600 tsiF).links) (by repeat' constructor)) (hO.of (A:=rowS Hg hg (dubT 1 3600 tsiF).shifts) (by repeat' constructor)) (hO.of (A := .fact Fg (ZaN Qg)) (by repeat' constructor))) (Zbt hZb (hO.of (A:=rowR Rb rb (dub 1 istF).rules) (by repeat' constructor)) (hO.of (A:=rowZ Zb zb Qb) (by repeat' constructor)) (hO.of (A:=rowL Lb lb (dub 1 istF).links) (by repeat' constructor)) (hO.of (A:=rowS Hb hb (dub 1 istF).shifts) (by repeat' constructor)) (hO.of (A := .fact Fb (ZaN Qb)) (by repeat' constructor)))) ?_)|(refine bx ?_;intro bk)|(refine stA ?_));first|refine⟨_,EndsA,Zr3,?_⟩|refine fin ?_)|(refine jn ?_;(try intro F);(first|(refine bx ?_;intro bk)|(refine stA ?_)|(apply Zag;first|exact Zmv|exact PuA));first|refine⟨_,EndsA,Zr3,?_⟩|refine fin ?_)|(apply RD_W;rfl;intro bk))
 exact rtA
end Go.Proofs.YtbjomhdhkpgbaaaGreatDoor
set_option maxHeartbeats 8000000
namespace Go.Proofs.YtbjomhdhkpgbaaaGreatDoor
open Go Go.RowKit Go.Wk
attribute [local irreducible] W RL Does Zar Zal retQ Calls Pu Stp RD Qy Ay Zak RW Zai in23
theorem ZyE (d:DD23):in23 d 1=Zai d:=by unfold in23;rw[if_pos rfl]
theorem toIn (Ar Az Al As:Option Addr)(cr cz cl cs:Nat)(d:DD23)(a form:Int)(w:World)(hL:LibW w)(hG:Glob w)(hform:form=1\/form=2\/form=3)(hA:Zan w Ar Az Al As cr cz cl cs (in23 d a)) :
  Does Tryz.prog 9 [srcV Ar Az Al As cr cz cl cs (in23 d a),.int .i64 form] w (ToS (in23 d form)):=by
 have h:=ZmR Ar Az Al As cr cz cl cs (in23 d a) form w ((ZgS d a).acc hL hG hA) (ZqU (ZgS d a)) hform (Zis d a) (Zs4 d a) (ZyD d a form)
 rw[ZB4]at h
 exact h
theorem Zhz (d:DD23)(a:Int):(in23 d a).zones.length=(Zai d).zones.length:=by
 unfold in23
 split
 ·rfl
 split
 all_goals exact List.length_map ..
end Go.Proofs.YtbjomhdhkpgbaaaGreatDoor
set_option maxHeartbeats 8000000
namespace Go.Proofs.YtbjomhdhkpgbaaaGreatDoor
open Go Go.RowKit Go.Wk
attribute [local irreducible] W RL Does Zar Zal retQ Calls Pu Stp RD Qy Ay Zak Zai in23
def ZC5 (s:Zac)(v:Value)(O:List It):Prop:=∃ u,v = .tuple #[u,.bool true]/\Zhk s u O
theorem Zr7 {P:Program}{n:Nat}{wr:World}{fr:Fr}{O:List It}{ty t t':TypeId}{x:Operand}{kk k':IntKind}{i j:Int}{sz:Nat}{ag:Bool}[Ty P t sz ag][IntT P t' k'](hx:ev fr x=some (.int kk i))(h:k'.wrap i=j):Pu P n wr fr O (.convert t t' x) ty (.int k' j):=h▸Pu_convI hx
theorem Zqw {G:Prop}(h:G:=by(first|(apply Pu_remE;rfl;rfl;omega;decide)|(apply Zr7;rfl;exact hcv)|(apply ZaA;rfl;rfl;exact e0)|(apply Za3;rfl;rfl;exact e1))):G:=h
theorem Zwt {G:Prop}(h:G:=by first|(apply Qy_y;rfl;exact Zqw)|exact QyA):G:=h
theorem ZwE {G:Prop}(h:G:=by repeat (first|exact QF.nil|(apply QF.mk;rfl;rfl;decide +kernel;exact Zwt))):G:=h
theorem Zvq (As Az Al:Option Addr)(cs cz cl:Nat)(d:DD23)(f:Int)(w:World)(hL:LibW w)(hG:Glob w)(hS:RdLL w As cs Zei 1 d.sets)(hZ:RdLL w Az cz E23.enc 8 d.zones)(hD:RdSl w Al cl Zei 1 d.links)(hrs:∀ l∈d.sets,∀ x∈l,inR .u8 x)(hrz:∀ l∈d.zones,∀ x∈l,x.ok)(hrl:∀ x∈d.links,inR .u8 x)(hf:0<=f/\f<=255) :
  Does Tryz.prog 15 [d23V As Az Al cs cz cl d,.int .u8 f] w (ZC5 (in23 d (1+f % 3))):=by
 have hmd:=fun w' (hw:Bel w.heap.size w w')=>(Zpv As Az Al cs cz cl d w' (hS.up hw) (hZ.up hw) (hD.up hw) hrs hrz hrl).monoO fun _ _ h=>ZcX h
 have hto:=fun R Z L H r z l h w' (hw:Bel w.heap.size w w')=>toIn R Z L H r z l h d 1 (1+f % 3) w' (hL.up hw) (hG.up hw) (by omega)
 have hcv:IntKind.i64.wrap (f % 3)=f % 3:=ZbS (by omega)
 have hz:=Zhz d (1+f % 3)
 have hpos:=Zi6 d
 unfold ToS at hto
 simp only[plV,Zas.enc,ZyE]at hto
 generalize in23 d (1+f % 3)=t at *
 generalize Zai d=m at *
 have e0:decide ((0:Int)=0)=true:=rfl
 have e1:decide ((0:Int)<(t.zones.length:Int))=true:=decide_eq_true (by omega)
 refine Zaa Tryz.func15 rfl rfl rfl rfl ?_
 repeat (first|(apply RL_pu;rfl;exact Zqw)|(apply RD_Q;rfl;rfl;decide +kernel;rfl;rfl;exact Zwt)|refine walk1 ?_|(refine jg ?_;(try intro F);(first|(apply Zad (h:=fun w' hw _=>hmd w' hw);rfl;rintro v O' ⟨Rm,rm,Zm,zm,Lm,lm,Hm,hm,Qm,Fm,rfl,hZm,rfl⟩)|(apply Zad (h:=fun w' hw hO=>hto Rm Zm Lm Hm rm zm lm hm w' hw (Zbt hZm (hO.of (A:=rowR Rm rm m.rules) (by repeat' constructor)) (hO.of (A:=rowZ Zm zm Qm) (by repeat' constructor)) (hO.of (A:=rowL Lm lm m.links) (by repeat' constructor)) (hO.of (A:=rowS Hm hm m.shifts) (by repeat' constructor)) (hO.of (A := .fact Fm (ZaN Qm)) (by repeat' constructor))));rfl;rintro v O' ⟨u,rfl,Ra,ra,Za,za,La,la,Ha,ha,Qa,Fa,rfl,hZa,rfl⟩)|(refine bx ?_;intro bk)|(refine stA ?_));first|refine⟨_,EndsA,ZwE,?_⟩|refine fin ?_)|(refine jn ?_;(try intro F);(first|(refine bx ?_;intro bk)|(refine stA ?_)|(apply Zag;first|exact Zqw|exact PuA));first|refine⟨_,EndsA,ZwE,?_⟩|refine fin ?_)|(apply RD_W;rfl;intro bk))
 exact ret_2 _ _ [rowR Ra ra t.rules,rowZ Za za Qa,rowL La la t.links,rowS Ha ha t.shifts,.fact Fa (ZaN Qa)] (.cellB rfl (by repeat' constructor) rfl rfl) (.tmp rfl) SOA ⟨_,rfl,Ra,ra,Za,za,La,la,Ha,ha,Qa,Fa,rfl,hZa,rfl⟩
end Go.Proofs.YtbjomhdhkpgbaaaGreatDoor
set_option maxHeartbeats 4000000
namespace Go.Proofs.YtbjomhdhkpgbaaaGreatDoor
open Go Go.RowKit Go.Wk
attribute [local irreducible] W RL Does Zar Zal retQ Calls Pu Stp RD Qy Ay Zak
theorem Zka {G:Prop}(h:G:=by(apply ZaA;rfl;rfl;exact e1)):G:=h
theorem Zqi {G:Prop}(h:G:=by first|(apply Qy_y;rfl;exact Zka)|exact QyA):G:=h
theorem Zmn {G:Prop}(h:G:=by repeat (first|exact QF.nil|(apply QF.mk;rfl;rfl;decide +kernel;exact Zqi))):G:=h
theorem ZlN (e:DEra)(Ar Az Al As:Option Addr)(cr cz cl cs:Nat)(a:Zac)(Br Bz Bl Bs:Option Addr)(dr dz dl ds:Nat)(b:Zac)(w:World)(hA:Zan w Ar Az Al As cr cz cl cs a)(hB:Zan w Br Bz Bl Bs dr dz dl ds b) :
  Does Tryz.prog 23 [.agg e.enc.toArray,srcV Ar Az Al As cr cz cl cs a,srcV Br Bz Bl Bs dr dz dl ds b] w (fun v O=>v = .bool (oppB e a b)/\O=[]):=by
 have hca:=fun w' (hw:Bel w.heap.size w w')=>ZeH As cs a.shifts e.set w' (hA.s.up hw)
 have hcb:=fun w' (hw:Bel w.heap.size w w')=>ZeH Bs ds b.shifts e.set w' (hB.s.up hw)
 unfold oppB
 obtain⟨off,kd,sv,st,fm,⟨is,yr,mo,⟨dk,dw,dd⟩,⟨cs',cb⟩⟩⟩:=e
 dsimp only at hca hcb ⊢
 show Does _ _ [.agg #[.int .i64 off,.int .i64 kd,.int .i64 sv,.string st,.string fm,.bool is,.int .i64 yr,.int .i64 mo,.int .i64 dk,.int .i64 dw,.int .i64 dd,.int .i64 cs',.int .i64 cb],_,_] w _
 unfold srcV
 by_cases hk:kd=2
 ·have e1:decide (kd=2)=true:=decide_eq_true hk
  rw[e1]
  refine Zaa Tryz.func23 rfl rfl rfl rfl ?_
  repeat (first|refine und ?_|(apply RL_pu;rfl;exact Zka)|(apply RD_Q;rfl;rfl;decide +kernel;rfl;rfl;exact Zqi)|refine walk1 ?_|(refine jg ?_;(try intro F);(first|(refine Zae hca ?_)|(refine Zae hcb ?_)|(refine bx ?_;intro bk));first|refine⟨_,EndsA,Zmn,?_⟩|refine fin ?_)|(refine jn ?_;(try intro F);(first|(refine bx ?_;intro bk)|(apply Zag;first|exact Zka|exact PuA));first|refine⟨_,EndsA,Zmn,?_⟩|refine fin ?_))
  exact rtA
 ·have e1:decide (kd=2)=false:=decide_eq_false hk
  rw[e1]
  refine Zaa Tryz.func23 rfl rfl rfl rfl ?_
  repeat (first|refine und ?_|(apply RL_pu;rfl;exact Zka)|(apply RD_Q;rfl;rfl;decide +kernel;rfl;rfl;exact Zqi)|refine walk1 ?_|(refine jg ?_;(try intro F);(first|(refine Zae hca ?_)|(refine Zae hcb ?_)|(refine bx ?_;intro bk));first|refine⟨_,EndsA,Zmn,?_⟩|refine fin ?_)|(refine jn ?_;(try intro F);(first|(refine bx ?_;intro bk)|(apply Zag;first|exact Zka|exact PuA));first|refine⟨_,EndsA,Zmn,?_⟩|refine fin ?_))
  exact rtA
end Go.Proofs.YtbjomhdhkpgbaaaGreatDoor
set_option maxHeartbeats 4000000
namespace Go.Proofs.YtbjomhdhkpgbaaaGreatDoor
open Go Go.RowKit Go.Wk
attribute [local irreducible] W RL Does Zar Zal retQ Calls Pu Stp RD Qy Ay Zak RLI WI
theorem ZkV (Ar Az Al As:Option Addr)(cr cz cl cs:Nat)(a:Zac)(name:ByteArray)(w:World)(hA:Zan w Ar Az Al As cr cz cl cs a)(hn:a.zones.length+a.links.length<=1000000) :
  Does Tryz.prog 20 [srcV Ar Az Al As cr cz cl cs a,.string name] w (fun v O=>v = .tuple #[.int .i64 (ZaW a (a.links.length+1) [] name).1,.int .i64 (ZaW a (a.links.length+1) [] name).2]/\O=[]):=by
 obtain⟨res,hres⟩:∃ res,ZaW a (a.links.length+1) [] name=res:=⟨_,rfl⟩
 rw[hres]
 refine Zaa Tryz.func20 rfl rfl rfl rfl ?_
 repeat (first|refine walk ?_|(refine jg ?_;(try intro F);(first|(apply Zad (h:=fun w' hw _=>Zgq Ar Az Al As cr cz cl cs a w' (hA.up hw) (by omega));rfl;rintro v O' ⟨b1,m1,rfl,rfl,i1,d1,n1⟩)|(apply Zad (h:=fun w' hw _=>Zey Ar Az Al As cr cz cl cs a w' (hA.up hw) (by omega));rfl;rintro v O' ⟨b2,m2,rfl,rfl,i2,d2,n2⟩)|(refine ZaX (fun w' hw hO=>Zjk Ar Az Al As cr cz cl cs a b1 b2 m1 m2 name w' (hA.up hw) (hO.of (A := .mp b1 m1) (by repeat' constructor)) (hO.of (A := .mp b2 m2) (by repeat' constructor)) i1 i2 d2 n2) ?_)|(refine bx ?_;intro bk));refine fin ?_)|(refine jn ?_;(try intro F);(first|(refine bx ?_;intro bk)|(apply Zag;exact PuA));refine fin ?_))
 rw[hres]
 exact rtB
end Go.Proofs.YtbjomhdhkpgbaaaGreatDoor
namespace Go.Proofs.YtbjomhdhkpgbaaaGreatDoor
open Go Go.RowKit Go.Wk
attribute [local irreducible] W RL Does Zar Zal retQ Calls Pu Stp RD Qy Ay Zak
theorem Zsl (Ar Az Al As:Option Addr)(cr cz cl cs:Nat)(a:Zac)(name:ByteArray)(p:Zas)(e:Int)(w:World)(h:Zd5 w Ar Az Al As cr cz cl cs a)(hf:accD a=some (p,e)) :
  Does Tryz.prog 77 [srcV Ar Az Al As cr cz cl cs a,.string name] w (fun v O=>v = .tuple #[.int .i64 0,.int .i64 e]/\O=[]):=by
 have ha:=fun w' (hw:Bel w.heap.size w w')=>ZDl Ar Az Al As cr cz cl cs a p e w' (h.up hw) hf
 have hb:(!decide (e=0))=true:=by rw[decide_eq_false (Zqg hf)];rfl
 refine Zaa Tryz.func77 rfl rfl rfl rfl ?_
 repeat (first|(apply RL_pu;rfl;(apply ZaH;rfl;rfl;exact hb))|(refine js ?_;(first|(apply Zad (h:=fun w' hw _=>ha w' hw);rfl;rintro v O' ⟨⟨p1,p2,p3,rfl⟩,rfl⟩)|(refine bx ?_;intro bk)))|refine walk1 ?_)
 exact rtB
theorem ZtE (Ar Az Al As:Option Addr)(cr cz cl cs:Nat)(a:Zac)(name:ByteArray)(w:World)(h:Zd5 w Ar Az Al As cr cz cl cs a)(hf:accD a=none)(hn:a.zones.length+a.links.length<=1000000) :
  Does Tryz.prog 77 [srcV Ar Az Al As cr cz cl cs a,.string name] w (fun v O=>v = .tuple #[.int .i64 (ZaW a (a.links.length+1) [] name).1,.int .i64 (ZaW a (a.links.length+1) [] name).2]/\O=[]):=by
 have ha:=fun w' (hw:Bel w.heap.size w w')=>ZDk Ar Az Al As cr cz cl cs a w' (h.up hw) hf
 have hl:=fun w' (hw:Bel w.heap.size w w')=>ZkV Ar Az Al As cr cz cl cs a name w' (h.A.up hw) hn
 generalize ZaW a (a.links.length+1) [] name=x at *
 refine Zaa Tryz.func77 rfl rfl rfl rfl ?_
 repeat (first|(refine js ?_;(first|(refine Zae ha ?_)|(refine Zae hl ?_)|(refine bx ?_;intro bk)))|refine walk ?_)
 exact rtB
def tOk (t:Int):Bool:=decide (-36028797018963968<=t)&&decide (t<=36028797018963968)
theorem ZlB {t:Int}:tOk t=true↔-36028797018963968<=t/\t<=36028797018963968:=by unfold tOk;simp
theorem ZCX {G:Prop}(h:G:=by(apply Za2;rfl;rfl;exact b1)):G:=h
theorem ZCW {G:Prop}(h:G:=by(first|exact ZCX|(apply Za3;rfl;rfl;exact b2))):G:=h
theorem Zw3 {G:Prop}(h:G:=by(first|exact ZCW|(apply Pu_indexAddr;rfl;rfl;omega;omega;exact hnz)|(apply Pu_loadON;rfl;exact hcz;rfl))):G:=h
theorem ZzT {G:Prop}(h:G:=by first|(apply Qy_y;rfl;exact Zw3)|exact QyA):G:=h
theorem Zz2 {G:Prop}(h:G:=by repeat (first|exact QF.nil|(apply QF.mk;rfl;rfl;decide +kernel;exact ZzT))):G:=h
theorem ZvF (Ar Az Al As:Option Addr)(cr cz cl cs:Nat)(a:Zac)(name:ByteArray)(t:Int)(i:Nat)(z:ZaO)(l:List Zb8)(x:Zb8)(Ae:Option Addr)(ce:Nat)(w:World)(h:Zd5 w Ar Az Al As cr cz cl cs a)(ht:tOk t=true)
  (hz:∀ w',Bel w.heap.size w w'->Does Tryz.prog 77 [srcV Ar Az Al As cr cz cl cs a,.string name] w' (fun v O=>v = .tuple #[.int .i64 i,.int .i64 0]/\O=[]))
  (hi:a.zones[i]?=some z) (hnz:Az≠none) (hcz:Zam w ((adr Az).add (i*2)) [.string z.name,.slice Ae z.eras.length ce])
  (hE:∀ k e,z.eras[k]?=some e->k+1<z.eras.length->RsSm (ruEr a.rules e)/\UnOk e (ruEr a.rules e)) (hl:Zm1 a.rules z.eras=some l) (hx:ZkB l t=(x,true)) :
  Does Tryz.prog 41 [srcV Ar Az Al As cr cz cl cs a,.string name,.int .i64 t] w (fun v O=>v = .tuple #[.agg #[.string z.name,.slice Ae z.eras.length ce],.int .i64 x.era,.int .i64 0]/\O=[]):=by
 have h2:=ZlB.1 ht
 have b1:decide (t < -36028797018963968)=false:=decide_eq_false (by omega)
 have b2:decide (36028797018963968<t)=false:=decide_eq_false (by omega)
 have hil:i<a.zones.length:=(List.getElem?_eq_some_iff.1 hi).1
 have hlz:=h.A.zle
 have hlc:=h.A.zcap
 simp only[maxLen]at hlc
 have hsp:=fun w' (hw:Bel w.heap.size w w')=>Zsv Ar Az Al As cr cz cl cs a i z l w' (h.G.up hw) (h.A.up hw) h.S.nr (h.S.zs z (List.mem_of_getElem? hi)).2.1 hi hE hl
 have hfi:=fun(A:Option Addr) (c:Nat) w' (hR:RdSl w' A c Zb8.enc 3 l)=>Zo5 A c l t w' hR
 rw[hx]at hfi
 clear hx hl hE hi
 obtain⟨x1,x2,x3⟩:=x
 simp only[Zb8.enc]at hfi
 refine Zaa Tryz.func41 rfl rfl rfl rfl ?_
 repeat (first|refine und ?_|(apply RL_pu;rfl;exact Zw3)|(apply RD_Q;rfl;rfl;decide +kernel;rfl;rfl;exact ZzT)|refine walk1 ?_|(refine jg ?_;(try intro F);(first|(refine Zae hz ?_)|(apply Zad (h:=fun w' hw _=>hsp w' hw);rfl;rintro v O' ⟨A3,c3,rfl,rfl⟩)|(refine ZaX (fun w' hw hO=>hfi A3 c3 w' (Zbc Zb8.len (hO.of (by repeat' constructor)))) ?_)|(refine bx ?_;intro bk)|(refine stA ?_));first|refine⟨_,EndsA,Zz2,?_⟩|refine fin ?_)|(refine jn ?_;(try intro F);(first|(refine bx ?_;intro bk)|(refine stA ?_)|(apply Zag;first|exact Zw3|exact PuA));first|refine⟨_,EndsA,Zz2,?_⟩|refine fin ?_)|(apply RD_W;rfl;intro bk))
 exact Zgn _ _ _ [] (.cellB rfl (by repeat' constructor) rfl rfl) (.tmp rfl) (.tmp rfl) .nil ⟨rfl,rfl⟩
theorem ZvN (Ar Az Al As:Option Addr)(cr cz cl cs:Nat)(a:Zac)(name:ByteArray)(t:Int)(zn:ByteArray)(Ae:Option Addr)(ne ce:Nat)(k e:Int)(w:World)
  (hf:∀ w',Bel w.heap.size w w'->Does Tryz.prog 41 [srcV Ar Az Al As cr cz cl cs a,.string name,.int .i64 t] w' (fun v O=>v = .tuple #[.agg #[.string zn,.slice Ae ne ce],.int .i64 k,.int .i64 e]/\O=[])) :
  Does Tryz.prog 21 [srcV Ar Az Al As cr cz cl cs a,.string name,.int .i64 t] w (fun v O=>v = .tuple #[.int .i64 k,.int .i64 e]/\O=[]):=by
 refine Zaa Tryz.func21 rfl rfl rfl rfl ?_
 repeat (first|(refine js ?_;(first|(refine Zae hf ?_)|(refine bx ?_;intro bk)))|refine walk ?_)
 exact rtB
theorem ZBr (Ar Az Al As:Option Addr)(cr cz cl cs:Nat)(a:Zac)(name:ByteArray)(t:Int)(zn:ByteArray)(Ae:Option Addr)(ce:Nat)(l:List DEra)(k:Nat)(x:DEra)(y:Zgf)(w:World)
  (hf:∀ w',Bel w.heap.size w w'->Does Tryz.prog 41 [srcV Ar Az Al As cr cz cl cs a,.string name,.int .i64 t] w' (fun v O=>v = .tuple #[.agg #[.string zn,.slice Ae l.length ce],.int .i64 k,.int .i64 0]/\O=[]))
  (hE:RdSl w Ae ce DEra.enc 13 l) (hx:l[k]?=some x)
  (hl:∀ w',Bel w.heap.size w w'->Does Tryz.prog 42 [srcV Ar Az Al As cr cz cl cs a,.agg x.enc.toArray,.int .i64 t] w' (fun v O=>v = .tuple #[.agg y.enc.toArray,.int .i64 0]/\O=[])) :
  Does Tryz.prog 22 [srcV Ar Az Al As cr cz cl cs a,.string name,.int .i64 t] w (fun v O=>v = .tuple #[.agg y.enc.toArray,.int .i64 0]/\O=[]):=by
 have hel:=hE.le
 have hec:=hE.cap
 simp only[maxLen]at hec
 have hkl:k<l.length:=(List.getElem?_eq_some_iff.1 hx).1
 obtain⟨hna,hca⟩:=hE.rd k _ hx
 obtain⟨off,kd,esv,sset,fm,⟨ui,uy,um,⟨ud1,ud2,ud3⟩,⟨uc1,uc2⟩⟩⟩:=x
 obtain⟨y1,y2,y3⟩:=y
 simp only[DEra.enc,Zgf.enc]at hca hl ⊢
 refine Zaa Tryz.func22 rfl rfl rfl rfl ?_
 repeat (first|(apply RL_pu;rfl;exact PuI)|(apply RD_Q;rfl;rfl;decide +kernel;rfl;rfl;exact QyI)|refine walk1 ?_|(refine jg ?_;(try intro F);(first|(refine Zae hf ?_)|(refine Zae hl ?_)|(refine bx ?_;intro bk)|(refine stA ?_));first|refine⟨_,EndsA,QFI,?_⟩|refine fin ?_)|(refine jn ?_;(try intro F);(first|(refine bx ?_;intro bk)|(refine stA ?_)|(apply Zag;first|exact PuI|exact PuA));first|refine⟨_,EndsA,QFI,?_⟩|refine fin ?_)|(apply RD_W;rfl;intro bk))
 exact rtC
def zoneD (a:Zac)(name:ByteArray):Int × Int:=match accD a with
 | some (_,e)=>(0,e)
 | none=>(((ZaW a (a.links.length+1) [] name).1:Nat),(ZaW a (a.links.length+1) [] name).2)
structure MnOk (a:Zac):Prop where
 acc:accD a=none
 un:∀ z∈a.zones,∀ k e,z.eras[k]?=some e->k+1<z.eras.length->RsSm (ruEr a.rules e)/\UnOk e (ruEr a.rules e)
 ne:∀ z∈a.zones,z.eras≠[]
 sp:∀ z∈a.zones,∃ r,Zm1 a.rules z.eras=some r
 lc:∀ z∈a.zones,∀ e∈z.eras,LcOk a.rules e
 st:∀ z∈a.zones,∀ e∈z.eras,∀ t,(-1000000000<=(Zbj a.rules e t).1/\(Zbj a.rules e t).1<=1000000000)/\(Zbj a.rules e t).2.size<=1000000000/\abE e (Zbj a.rules e t)=0
section
variable (Ar Az Al As:Option Addr)(cr cz cl cs:Nat)(a:Zac)(name:ByteArray)(t:Int)(w:World)
theorem ZoL (h:Zd5 w Ar Az Al As cr cz cl cs a)(hn:a.zones.length+a.links.length<=1000000) :
  Does Tryz.prog 77 [srcV Ar Az Al As cr cz cl cs a,.string name] w (fun v O=>v = .tuple #[.int .i64 (zoneD a name).1,.int .i64 (zoneD a name).2]/\O=[]):=by
 unfold zoneD
 cases ha:accD a with
 | some x =>
  obtain⟨p,e⟩:=x
  exact Zsl Ar Az Al As cr cz cl cs a name p e w h ha
 | none=>exact ZtE Ar Az Al As cr cz cl cs a name w h ha hn
theorem ZtF (h:Zd5 w Ar Az Al As cr cz cl cs a)(hn:a.zones.length+a.links.length<=1000000){i:Nat}(hz:zoneD a name=(((i:Nat):Int),0)) :
  Does Tryz.prog 77 [srcV Ar Az Al As cr cz cl cs a,.string name] w (fun v O=>v = .tuple #[.int .i64 i,.int .i64 0]/\O=[]):=by
 have:=ZoL Ar Az Al As cr cz cl cs a name w h hn
 rwa[hz]at this
theorem ZuX (h:Zd5 w Ar Az Al As cr cz cl cs a)(hM:MeG w)(m:MnOk a){z:ZaO}(hz:z∈a.zones){e:DEra}(he:e∈z.eras)(ht : -1000000000000000000<=t/\t<=1000000000000000000) :
  Does Tryz.prog 42 [srcV Ar Az Al As cr cz cl cs a,.agg e.enc.toArray,.int .i64 t] w (fun v O=>v = .tuple #[.agg (ZgP e (Zbj a.rules e t)).enc.toArray,.int .i64 0]/\O=[]):=by
 obtain⟨h1,h2,h3⟩:=m.st z hz e he t
 exact ZnA Ar Az Al As cr cz cl cs a e t w h.L h.G hM h.A h.S.nr (m.lc z hz e he) ht h1 h2 h3
theorem ZCp (h:Zd5 w Ar Az Al As cr cz cl cs a)(hn:a.zones.length+a.links.length<=1000000)(m:MnOk a)(ht:tOk t=true){i:Nat}{z:ZaO}(hz:zoneD a name=(((i:Nat):Int),0))(hi:a.zones[i]?=some z)(Ae:Option Addr)(ce:Nat)(hnz:Az≠none)(hcz:Zam w ((adr Az).add (i*2)) [.string z.name,.slice Ae z.eras.length ce]) :
  Does Tryz.prog 41 [srcV Ar Az Al As cr cz cl cs a,.string name,.int .i64 t] w (fun v O=>v = .tuple #[.agg #[.string z.name,.slice Ae z.eras.length ce],.int .i64 (ZfZ a.rules z.eras t),.int .i64 0]/\O=[]):=by
 have hmem:=List.mem_of_getElem? hi
 have h2:=ZlB.1 ht
 obtain⟨r,hr⟩:=m.sp z hmem
 obtain⟨x,_,_,hf,hx,_⟩:=Zo4 hr (m.ne z hmem) (t:=t) (by omega) (by omega)
 have:=ZvF Ar Az Al As cr cz cl cs a name t i z r x Ae ce w h ht (fun w' hw=>ZtF Ar Az Al As cr cz cl cs a name w' (h.up hw) hn hz) hi hnz hcz (m.un z hmem) hr hf
 rwa[hx]at this
theorem mAt (h:Zd5 w Ar Az Al As cr cz cl cs a)(hM:MeG w)(hn:a.zones.length+a.links.length<=1000000)(m:MnOk a)(ht:tOk t=true){i:Nat}{z:ZaO}(hz:zoneD a name=(((i:Nat):Int),0))(hi:a.zones[i]?=some z) :
  Does Tryz.prog 22 [srcV Ar Az Al As cr cz cl cs a,.string name,.int .i64 t] w (fun v O=>v = .tuple #[.agg (ZpA a.rules z.eras t).enc.toArray,.int .i64 0]/\O=[]):=by
 have hmem:=List.mem_of_getElem? hi
 have h2:=ZlB.1 ht
 obtain⟨hnz,cs1,⟨Ae,ce,hEz,rfl⟩,hcz⟩:=h.A.z i _ hi
 obtain⟨r,hr⟩:=m.sp z hmem
 obtain⟨x,hk,_⟩:=Zo4 hr (m.ne z hmem) (t:=t) (by omega) (by omega)
 obtain⟨e,he,hd⟩:=Zjg (d:=dE0) hk
 unfold ZpA
 rw[hd]
 exact ZBr Ar Az Al As cr cz cl cs a name t z.name Ae ce z.eras (ZfZ a.rules z.eras t) e _ w (fun w' hw=>ZCp Ar Az Al As cr cz cl cs a name t w' (h.up hw) hn m ht hz hi Ae ce hnz (hcz.up hw (Nat.le_refl _))) hEz he fun w' hw=>ZuX Ar Az Al As cr cz cl cs a t w' (h.up hw) (hM.up hw) m hmem (List.mem_of_getElem? he) (by omega)
theorem mEra (h:Zd5 w Ar Az Al As cr cz cl cs a)(hn:a.zones.length+a.links.length<=1000000)(m:MnOk a)(ht:tOk t=true){i:Nat}{z:ZaO}(hz:zoneD a name=(((i:Nat):Int),0))(hi:a.zones[i]?=some z) :
  Does Tryz.prog 21 [srcV Ar Az Al As cr cz cl cs a,.string name,.int .i64 t] w (fun v O=>v = .tuple #[.int .i64 (ZfZ a.rules z.eras t),.int .i64 0]/\O=[]):=by
 obtain⟨hnz,cs1,⟨Ae,ce,hEz,rfl⟩,hcz⟩:=h.A.z i _ hi
 exact ZvN Ar Az Al As cr cz cl cs a name t z.name Ae z.eras.length ce _ 0 w fun w' hw=>ZCp Ar Az Al As cr cz cl cs a name t w' (h.up hw) hn m ht hz hi Ae ce hnz (hcz.up hw (Nat.le_refl _))
end
theorem Zu7 {x:ByteArray}(h:x∈[ByteArray.empty,(⟨#[83]⟩:ByteArray),⟨#[68]⟩,⟨#[68,84]⟩]):x.size<=1000000000:=by
 have:∀ x∈[ByteArray.empty,(⟨#[83]⟩:ByteArray),⟨#[68]⟩,⟨#[68,84]⟩],x.size<=1000000000:=by decide
 exact this x h
theorem ZBa {x:ByteArray}(h:x∈fmtU):x.size<=1000000000:=by
 have:∀ x∈fmtU,x.size<=1000000000:=by decide
 exact this x h
theorem ZA3 {a:Zac}(hacc:accD a=none)(h:∀ z∈a.zones,∃ Y,ZcB a.rules z.eras Y):MnOk a:=by
 have hd:∀ z∈a.zones,∀ e∈z.eras,∃ b,Zb1 a.rules e b:=fun z hz e he=>by
  obtain⟨Y,hY⟩:=h z hz
  obtain⟨k,hk⟩:=List.mem_iff_getElem?.1 he
  exact⟨_,hY.era k e hk⟩
 refine⟨hacc,fun z hz k e he hk=>?_,fun z hz hn=>?_,fun z hz=>?_,fun z hz e he=>?_,fun z hz e he t=>?_⟩
 ·obtain⟨Y,hY⟩:=h z hz
  exact hY.un k e he hk
 ·obtain⟨Y,hY⟩:=h z hz
  have:=hY.len.1
  rw[hn]at this
  simp at this
 ·obtain⟨Y,hY⟩:=h z hz
  exact hY.sp
 ·obtain⟨b,hb⟩:=hd z hz e he
  have h0:=hb.st0.1
  dsimp only at h0
  have hk:0<=e.kind/\e.kind<=2:=by rcases hb with⟨h0,_⟩|⟨h0,_⟩|⟨h0,_⟩ <;> omega
  have hs : -10800<=e.save/\e.save<=10800:=by
   rcases hb with⟨_,h0,_⟩|⟨_,h0,_⟩|⟨_,_,h0,_⟩ <;> omega
  refine⟨hk,by omega,by omega,fun h2=>?_,ZBa hb.fmt⟩
  have:=hb.rs
  unfold ruEr at this
  rwa[if_pos h2]at this
 ·obtain⟨b,hb⟩:=hd z hz e he
  obtain⟨h1,h2,h3⟩:=hb.state t
  exact⟨by omega,Zu7 h3,(ZBy hb.fmt (hb.state t)).1⟩
end Go.Proofs.YtbjomhdhkpgbaaaGreatDoor
namespace Go.Proofs.YtbjomhdhkpgbaaaGreatDoor
open Go Go.RowKit Go.Wk
theorem ZpV (d:DD23){x:ByteArray}(hx:x∈(Zai d).zones.map ZaO.name\/x∈(Zai d).links.map Zbl.name):x∈Ziv (zl23 d.zones).length (d.links.take 4).length:=by
 obtain⟨h1,h2⟩:=Zpy d
 unfold Ziv
 rw[List.mem_append]
 rcases hx with hx|hx
 ·exact .inl (by rw[<- h1];exact hx)
 ·exact .inr (by rw[<- h2];exact hx)
theorem nm23 (d:DD23){x:ByteArray}(hx:x∈(Zai d).zones.map ZaO.name\/x∈(Zai d).links.map Zbl.name):∃ (i:Nat) (z:ZaO),zoneD (Zai d) x=(((i:Nat):Int),0)/\(Zai d).zones[i]?=some z/\(ZaW (Zai d) ((Zai d).links.length+1) [] x).1=i/\(ZaW (Zai d) ((Zai d).links.length+1) [] x).2=0:=by
 obtain⟨h1,h2⟩:=Zpx d x (ZpV d hx)
 obtain⟨z,hz⟩:∃ z,(Zai d).zones[(ZaW (Zai d) ((Zai d).links.length+1) [] x).1]?=some z:=⟨_,List.getElem?_eq_getElem h2⟩
 refine⟨_,z,?_,hz,rfl,h1⟩
 unfold zoneD
 rw[ZfH d]
 dsimp only
 rw[h1]
theorem mn23 (d:DD23):MnOk (Zai d):=ZA3 (ZfH d) (ZbF d)
theorem ZCn (d:DD23):(Zai d).zones.length+(Zai d).links.length<=12:=by
 have h1:=Zi7 d
 have h2:=Znw d
 obtain⟨z1,z3⟩:=ZdN d.zones
 omega
end Go.Proofs.YtbjomhdhkpgbaaaGreatDoor
set_option maxHeartbeats 4000000
set_option maxRecDepth 20000
namespace Go.Proofs.YtbjomhdhkpgbaaaGreatDoor
open Go Go.RowKit Go.Wk
attribute [local irreducible] W RL Does Zar Zal retQ Calls Pu Stp RD Qy Ay Zak RLI WI
def Zzf (m:List (ByteArray × Value))(v:Value)(O:List It):Prop:=∃ (A:Option Addr) (c:Nat) (d:List (ByteArray × Value)),d.Perm m/\v = .slice A (d.map (·.1)).length c/\(d.map (·.1)).length<=c/\c<=maxLen/\(0<(d.map (·.1)).length->A≠none)/\O=[.row (.slice A (d.map (·.1)).length c) 9 1 (d.map (·.1)).length ((d.map (·.1)).flatMap Zav)]
def seqR (m:List (ByteArray × Value))(wr:World):Ending->World->Prop:=fun e w'=>∃ v O,e = .returned v/\Bel wr.heap.size wr w'/\Zau wr.heap.size O w'/\Zzf m v O
theorem Zur (m:List (ByteArray × Value))(wr:World){fr:Fr}{O R:List It}{a:Act}{w':World}{D:Nat}{v:Value}(hs:St 13 wr fr (ZbC D::O) a w')(h2:Wk.look fr 4=some v)(hO:SubO R O)(hR:Zzf m v R) :
  bodyPostM Fence.wide 0 Tryz.prog Tryz.f106 (seqR m wr) .ret (actD (ZdX D) a) w':=by
 have hK:=ZbC.at (hs.own.sat _ List.mem_cons_self)
 have hs2:=Zil hs
 refine⟨by simp,.inl ⟨_,_,rfl,run_takeDeferred hK,?_⟩⟩
 refine⟨v,?_,_,R,rfl,hs2.old,hs2.own.sub hO,hR⟩
 have hres:Tryz.f106.results=[ResultVar.tmp 4].toArray:=rfl
 show(results Tryz.f106 a.tmps).run Tryz.prog _=_
 unfold results
 rw[hres,List.mapM_toArray]
 simp only[Sem.run_bind,Sem.run_map]
 rw[ZbT (P:=Tryz.prog) hs2 _ (fun _=>rfl) (fun _ _=>rfl) [ResultVar.tmp 4] [v] ⟨_,[],rfl,h2,rfl⟩]
 simp only[Result.andThen_ok,Sem.run_pure]
 rfl
abbrev SQ:=Option Addr × Nat × List ByteArray
abbrev seqO (l D bs:Nat)(r:Loop)(s:SQ):List It:=[Za1 l r,ZbC D,.blk bs [.slice s.1 s.2.2.length s.2.1] 30,.row (.slice s.1 s.2.2.length s.2.1) 9 1 s.2.2.length (s.2.2.flatMap Zav)]
theorem Zkp (bx b:Nat)(m:List (ByteArray × Value))(hm:m.length<=1000000)(wr:World) :
  Zak Tryz.prog 106 [.slice none 0 0,.func (.func 75) #[] #[.pointer (some ⟨bx,0,none⟩)]] wr [.blk bx [.map (some b)] 98,.mp b m] (Zzf m):=by
 unfold Zak
 intro w0 hB0 hH0
 refine Zie Tryz.func106 rfl rfl rfl hB0 hH0 ?_
 intro a0 hst
 -- Zaa Tryz.func106
 refine ZdW (fun fr' O'=>∃ bs,Sub [(1,.func (.func 75) #[] #[.pointer (some ⟨bx,0,none⟩)]),(2,.pointer (some ⟨bs,0,none⟩))] fr'/\SubO [.blk bs [.slice none 0 0] 30,.row (.slice none 0 0) 9 1 0 [],.blk bx [.map (some b)] 98,.mp b m] O') ?_ ?_ a0 w0 hst
 ·refine Zdj 9 1 ?_
  apply W_region
  apply RL_st;rfl;(apply Stp_boxNf;rfl;(focus repeat' constructor);intro bs)
  apply RL_pu;rfl;(apply Pu_assign;rfl)
  apply RL_nil
  exact⟨rfl,bs,SFA,SOA⟩
 rintro a1 w1 fr1 O1 hs0 ⟨bs,hf1,hO1⟩
 have hs1:=hs0.sub hf1 hO1
 clear hf1 hO1 hs0 hst a0 fr1 O1
 refine wp_seq ?_
 refine ZdW (fun fr' O'=>Sub [(2,.pointer (some ⟨bs,0,none⟩)),(6,.func (.func 75) #[] #[.pointer (some ⟨bx,0,none⟩)])] fr'/\SubO [.blk bs [.slice none 0 0] 30,.row (.slice none 0 0) 9 1 0 [],.blk bx [.map (some b)] 98,.mp b m] O') ?_ ?_ a1 w1 hs1
 ·apply W_region
  apply RL_pu;rfl;(apply Pu_move;rfl)
  apply RL_nil
  exact⟨rfl,SFA,SOA⟩
 rintro a2 w2 fr2 O2 hs0 ⟨hf2,hO2⟩
 have hs2:=hs0.sub hf2 hO2
 clear hf2 hO2 hs0 hs1 a1 w1 fr2 O2
 refine wp_block ?_
 refine Zim (gf:=75) (lb:=[.pointer (some ⟨bx,0,none⟩)]) (fun jump O2=>jump=none/\∃ s:SQ,∃ d:List (ByteArray × Value),d.Perm m/\s.2.2=d.map (·.1)/\s.2.2.length<=s.2.1/\s.2.1<=maxLen/\(0<s.2.2.length->s.1≠none)/\SubO [.blk bs [.slice s.1 s.2.2.length s.2.1] 30,.row (.slice s.1 s.2.2.length s.2.1) 9 1 s.2.2.length (s.2.2.flatMap Zav)] O2) hs2 rfl ?_ ?_
 ·intro fn l D
  generalize hr:ZfW fn a2.tmps 7 _ _ D=r
  have hit:=ZpH l bx b m (seqO l D bs r) (fun d (s:SQ)=>s.2.2=d.map (·.1)/\s.2.2.length<=s.2.1/\s.2.1<=maxLen/\(0<s.2.2.length->s.1≠none)) wr (none,0,[]) ⟨rfl,Nat.le_refl _,by simp[maxLen],by simp⟩ ?_
  ·refine hit.sub SOA fun v O' ⟨_,d,s,h1,⟨h2,h3,h4,h5⟩,h6⟩=>?_
   exact⟨none,_,.ready,SubO.trans (by rw[<- hr];exact SOA) h6,by decide,rfl,s,d,h1,h2,h3,h4,h5,.refl _⟩
  ·rintro d kv ⟨A,c,x⟩ X Y hlt ⟨h2,h3,h4,h5⟩
   dsimp only at h2 h3 h4 h5
   have hxl:x.length<1000000:=by rw[h2,List.length_map];omega
   refine Ze3 (r:=r) (p:=7) (fr:=[(2,.pointer (some ⟨bs,0,none⟩)),(6,.func (.func 75) #[] #[.pointer (some ⟨bx,0,none⟩)])]) (a0:=a2) (O1:=[X,Y,Za1 l { r with state := .busy },ZbC D,.blk bs [.slice A x.length c] 30,.row (.slice A x.length c) 9 1 x.length (x.flatMap Zav)]) (by rw[<- hr];rfl) (by rw[<- hr];rfl) (by rw[<- hr];rfl) hs2.sim rfl (by repeat' constructor) (by rw[<- hr];rfl) ?_
   apply Za9 (Or.inr ⟨_,rfl⟩);rfl;(intro c h;cases h);(apply Pu_assign;rfl)
   refine Za0 ⟨rfl,?_⟩
   have hbody:∀ Q fr O,(∀ b:Code,b=r.body->WI (Fence.wide.inRound l) [] Tryz.prog 13 wr b Q fr O)->WI (Fence.wide.inRound l) [] Tryz.prog 13 wr r.body Q fr O:=fun Q fr O h=>h _ rfl
   refine hbody _ _ _ fun b hb=>?_
   rw[<- hr]at hb
   dsimp only[ZfW]at hb
   subst hb
   refine Zdk (Zbb ?_)
   apply Za9 (Or.inr ⟨_,rfl⟩);rfl;(intro c h;cases h);(apply Pu_loadB1;rfl;(focus repeat' constructor);rfl)
   apply Za9 (Or.inr ⟨_,rfl⟩);rfl;(intro c h;cases h);(apply Pu_move;rfl)
   apply ZbH (Or.inr ⟨_,rfl⟩);(intro d hd;cases hd;rfl);(intro c h;cases h);(intro a w hs;apply ZjT)
   apply Zd2;rfl;rfl;rfl;intro bq
   apply ZbH (Or.inr ⟨_,rfl⟩);(intro d hd;cases hd;rfl);(intro c h;cases h);(intro a w hs;apply ZjU)
   apply Zay;rfl;rfl;(intro A' c';(focus repeat' constructor));(intro w' _ hO;exact Zbv (hO.of (by repeat' constructor)));rfl;rfl;(simp only[maxLen];omega);omega;intro A' c' hc1 hc2 hc3
   apply ZbH (Or.inr ⟨_,rfl⟩);(intro d hd;cases hd);(intro c h;cases h);(intro a w hs;exact Zdq a w)
   (apply Stp_storeNf;rfl;rfl;(focus repeat' constructor);(focus repeat (first|exact Nf.nil|apply Nf.cons));rfl;rfl;rfl;(focus repeat' constructor))
   refine Za0 ?_
   refine blockQ_n ?_
   have hl1:(x++[kv.1]).length=x.length+1:=by simp
   refine⟨_,(by repeat' constructor),rfl,(A',c',x++[kv.1]),⟨by rw[h2];simp,by dsimp only;omega,hc2,fun _=>hc3 (by omega)⟩,?_⟩
   dsimp only[seqO]
   rw[hl1,<- Zfs,<- hr]
   exact SOA
 ·rintro jump O2 D w4 ⟨rfl,⟨A,c,x⟩,d,h1,h2,h3,h4,h5,hsub⟩ hs4
  dsimp only at h2 h3 h4 h5 hsub
  subst h2
  have hs5:St 13 wr [(2,.pointer (some ⟨bs,0,none⟩))] [ZbC D,.blk bs [.slice A (d.map (·.1)).length c] 30,.row (.slice A (d.map (·.1)).length c) 9 1 (d.map (·.1)).length ((d.map (·.1)).flatMap Zav)] a2 w4:=hs4.sub SFA (.cons .here hsub)
  show(Code.seq _ _).wp _ _ _ _
  have key:∀ c' Q' Q3,WI Fence.wide (ZdX D) Tryz.prog 13 wr c' Q' [(2,.pointer (some ⟨bs,0,none⟩))] [ZbC D,.blk bs [.slice A (d.map (·.1)).length c] 30,.row (.slice A (d.map (·.1)).length c) 9 1 (d.map (·.1)).length ((d.map (·.1)).flatMap Zav)]->(∀ e a' w',ZpD (ZdX D) 13 wr Q' e a' w'->Q3 e a' w')->c'.wp Tryz.prog Q3 (actD (ZdX D) a2) w4:=fun c' Q' Q3 h hq=>(wpIn_wide (n:=0)).1 (wpIn_mono (h.at hs5) hq)
  refine key _ (fun e fr O=>e = .ret/\Sub [(4,.slice A (d.map (·.1)).length c)] fr/\SubO [ZbC D,.row (.slice A (d.map (·.1)).length c) 9 1 (d.map (·.1)).length ((d.map (·.1)).flatMap Zav)] O) _ (ZbP (Zbb ?_)) ?_
  ·apply Za9 (.inl rfl);rfl;(intro c h;cases h);(apply Pu_loadB1;rfl;(focus repeat' constructor);rfl)
   apply Za9 (.inl rfl);rfl;(intro c h;cases h);(apply Pu_assign;rfl)
   refine Za0 ?_
   refine thenQ_n ?_
   refine Zgd ?_
   exact⟨rfl,SFA,SOA⟩
  ·rintro e a' w' ⟨hd,fr',O',hs',rfl,hf,hO⟩
   have h:=Zur m wr (hs'.sub hf hO) rfl (.refl _) ⟨A,c,d,h1,rfl,h3,h4,h5,rfl⟩
   rw[Zc3 hd]at h
   exact h
end Go.Proofs.YtbjomhdhkpgbaaaGreatDoor
namespace Go.Proofs.YtbjomhdhkpgbaaaGreatDoor
open Go Go.RowKit Go.Wk
attribute [local irreducible] W RL Does Zar Zal retQ Calls Pu Stp RD Qy Ay Zak
end Go.Proofs.YtbjomhdhkpgbaaaGreatDoor
