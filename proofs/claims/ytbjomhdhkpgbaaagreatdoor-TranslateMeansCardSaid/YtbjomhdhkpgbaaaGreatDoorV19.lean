/- Parts of the proof. -/
import Derived.Test.YtbjomhdhkpgbaaaGreatDoorV18
import Derived.Test.YtbjomhdhkpgbaaaGreatDoorV09
import Derived.Test.YtbjomhdhkpgbaaaGreatDoorV15
import Derived.Test.YtbjomhdhkpgbaaaGreatDoorV16
import Derived.Test.YtbjomhdhkpgbaaaGreatDoorV08
import Derived.Recover
import Derived.Test.YtbjomhdhkpgbaaaGreatDoorV14
set_option maxHeartbeats 4000000
set_option linter.unusedVariables false
set_option linter.unusedSimpArgs false
namespace Go.Wk
open Go Go.RowKit
structure Zb8 where
 start:Int
 fin:Int
 era:Int
deriving DecidableEq
def Zb8.enc (x:Zb8):List Value:=[.int .i64 x.start,.int .i64 x.fin,.int .i64 x.era]
theorem Zb8.len (x:Zb8):x.enc.length=3:=rfl
def spIn (t:Int)(x:Zb8):Bool:=decide (x.start<=t)&&decide (t<x.fin)
def ZeZ (t:Int):List Zb8->Nat->Int
 | [],_ => -1
 | x::l,i=>if spIn t x then i else ZeZ t l (i+1)
def sp0:Zb8:=⟨0,0,0⟩
def ZkB (l:List Zb8)(t:Int):Zb8 × Bool:=if ZeZ t l 0<0 then (sp0,false) else (l.getD (ZeZ t l 0).toNat sp0,true)
theorem ZmZ (t:Int):∀ (l:List Zb8) (i:Nat),ZeZ t l i = -1\/((i:Int)<=ZeZ t l i/\ZeZ t l i<i+l.length)
 | [],i => .inl rfl
 | x::l,i=>by
  rw[ZeZ]
  split
  ·right
   simp
   omega
  ·rcases ZmZ t l (i+1) with h|h
   ·exact .inl h
   ·right
    rw[List.length_cons]
    omega
end Go.Wk
namespace Go.Proofs.YtbjomhdhkpgbaaaGreatDoor
open Go Go.RowKit Go.Wk
attribute [local irreducible] W RL Does Zar Zal retQ Calls Pu Stp RD Qy Ay Zak
theorem ZAu {G:Prop}(h:G:=by(first|(apply Pu_loadO1;rfl;exact hb 0 _ rfl)|(apply ZeP;rfl;rfl;exact b1))):G:=h
theorem Zuf (x:Zb8)(t:Int)(b:Nat)(w:World)(hb:Zam w ⟨b,0,none⟩ [.int .i64 t]):Does Tryz.prog 113 [.agg x.enc.toArray,.pointer (some ⟨b,0,none⟩)] w (fun v O=>v = .bool (spIn t x)/\O=[]):=by
 obtain⟨s,f,k⟩:=x
 unfold spIn
 dsimp only
 show Does _ _ [.agg #[.int .i64 s,.int .i64 f,.int .i64 k],_] w _
 refine Zaa Tryz.func113 rfl rfl rfl rfl ?_
 by_cases h:s<=t
 ·have b1:decide (s<=t)=true:=decide_eq_true h
  rw[b1,Bool.true_and]
  repeat (first|refine und ?_|(apply RL_pu;rfl;exact ZAu)|(refine js ?_;(refine bx ?_;intro bk))|refine walk1 ?_)
  exact rtA
 ·have b1:decide (s<=t)=false:=decide_eq_false h
  rw[b1,Bool.false_and]
  repeat (first|refine und ?_|(apply RL_pu;rfl;exact ZAu)|(refine js ?_;(refine bx ?_;intro bk))|refine walk1 ?_)
  exact rtA
theorem Zue (A:Option Addr)(c:Nat)(l:List Zb8)(t:Int)(b:Nat)(w:World)(hA:RdSl w A c Zb8.enc 3 l)(hb:Zam w ⟨b,0,none⟩ [.int .i64 t]) :
  Does Tryz.prog 112 [.slice A l.length c,.func (.func 113) #[] #[.pointer (some ⟨b,0,none⟩)]] w (fun v O=>v = .int .i64 (ZeZ t l 0)/\O=[]):=by
 have hle:=hA.le
 have hcp:=hA.cap
 simp only[maxLen]at hcp
 have hin:=fun x w' (hw:Bel w.heap.size w w')=>Zuf x t b w' (hb.up hw (Nat.le_refl _))
 obtain⟨res,hres⟩:∃ res,ZeZ t l 0=res:=⟨_,rfl⟩
 rw[hres]
 refine Zaa Tryz.func112 rfl rfl rfl rfl ?_
 repeat (first|refine walk ?_)
 refine Zaq [(0,.slice A l.length c),(1,.func (.func 113) #[] #[.pointer (some ⟨b,0,none⟩)]),(7,.int .i64 l.length)] [] (fun k:Nat=>[(8,.int .i64 k)]) (fun _=>[]) (fun k=>k<=l.length/\ZeZ t (l.drop k) k=res) (fun k=>l.length - k) 0 SFA SOA ⟨Nat.zero_le _,hres⟩ ?_
 clear hres
 rintro k ⟨hk,hi⟩
 repeat (first|refine walk ?_)
 refine Zah rfl (fun hc=>?_) (fun hc=>?_)
 ·have hkl:k<l.length:=by simpa using hc
  obtain⟨hna,hca⟩:=hA.rd k _ (List.getElem?_eq_getElem hkl)
  rw[Zao hkl,ZeZ]at hi
  have hx:=hin l[k]
  generalize l[k]=x at *
  generalize spIn t x=q at *
  obtain⟨s,f,e⟩:=x
  change Zam w _ [.int .i64 s,.int .i64 f,.int .i64 e]at hca
  cases q with
  | true =>
   rw[if_pos rfl]at hi
   subst hi
   repeat (first|(apply RL_pu;rfl;exact PuI)|(refine js ?_;(apply Zap (f:=113) (us:=[]) (vs:=[.agg #[.int .i64 s,.int .i64 f,.int .i64 e]]) (cs:=[.pointer (some ⟨b,0,none⟩)]) (h:=fun w' hw _=>hx w' hw);rfl;rfl;rintro v O' ⟨rfl,rfl⟩))|refine walk1 ?_)
   exact rtA
  | false =>
   rw[if_neg (by decide)]at hi
   repeat (first|(apply RL_pu;rfl;exact PuI)|(refine js ?_;(apply Zap (f:=113) (us:=[]) (vs:=[.agg #[.int .i64 s,.int .i64 f,.int .i64 e]]) (cs:=[.pointer (some ⟨b,0,none⟩)]) (h:=fun w' hw _=>hx w' hw);rfl;rfl;rintro v O' ⟨rfl,rfl⟩))|refine walk1 ?_)
   exact⟨k+1,OA,⟨OA,hi⟩,SFA,SOA⟩
 ·obtain rfl:k=l.length:=by simp only[decide_eq_false_iff_not,Int.ofNat_lt]at hc;omega
  rw[List.drop_length,ZeZ]at hi
  subst hi
  repeat (first|refine walk ?_)
  exact rtA
theorem ZAt {G:Prop}(h:G:=by(apply Za2;rfl;rfl;exact b1)):G:=h
theorem Zo5 (A:Option Addr)(c:Nat)(l:List Zb8)(t:Int)(w:World)(hA:RdSl w A c Zb8.enc 3 l) :
  Does Tryz.prog 79 [.slice A l.length c,.int .i64 t] w (fun v O=>v = .tuple #[.agg (ZkB l t).1.enc.toArray,.bool (ZkB l t).2]/\O=[]):=by
 have hle:=hA.le
 have hcp:=hA.cap
 simp only[maxLen]at hcp
 have hix:=fun(b:Nat) w' (hw:Bel w.heap.size w w') hb=>Zue A c l t b w' (hA.up hw) hb
 have hrg:=ZmZ t l 0
 unfold ZkB
 generalize ZeZ t l 0=i at *
 refine Zaa Tryz.func79 rfl rfl rfl rfl ?_
 by_cases h:i<0
 ·have b1:decide (i<0)=true:=decide_eq_true h
  rw[if_pos h]
  repeat (first|(apply RL_pu;rfl;exact ZAt)|(refine js ?_;(first|(apply Zad (h:=fun w' hw hH=>hix _ w' hw (hH.cells (by repeat' constructor)));rfl;rintro v O' ⟨rfl,rfl⟩)|(refine bx ?_;intro bk)))|refine walk1 ?_)
  exact rtC
 ·have b1:decide (i<0)=false:=decide_eq_false h
  rw[if_neg h]
  obtain⟨x,hx⟩:∃ x,l[i.toNat]?=some x:=⟨_,List.getElem?_eq_getElem (by omega)⟩
  obtain⟨hna,hca⟩:=hA.rd _ _ hx
  rw[List.getD_eq_getElem?_getD,hx,Option.getD_some]
  obtain⟨s,f,e⟩:=x
  change Zam w _ [.int .i64 s,.int .i64 f,.int .i64 e]at hca
  repeat (first|(apply RL_pu;rfl;(first|exact ZAt|exact PuI))|(refine js ?_;(first|(apply Zad (h:=fun w' hw hH=>hix _ w' hw (hH.cells (by repeat' constructor)));rfl;rintro v O' ⟨rfl,rfl⟩)|(refine bx ?_;intro bk)))|refine walk1 ?_)
  exact rtC
def KnP (rs:List Zab)(m:List (ByteArray × Value)):Prop:=∀ k v,mget m k=some v->∃ A c,v = .slice A (ofB rs k).length c
def KnAt (rs:List Zab)(m:List (ByteArray × Value))(w:World):Prop:=∀ k A n c,mget m k=some (.slice A n c)->RdSl w A c Zab.enc 11 (ofB rs k)
def ruEr (rs:List Zab)(e:DEra):List Zab:=if e.kind=2 then ofB rs e.set else []
def ZCB (Ar Az Al As:Option Addr)(cr cz cl cs:Nat)(s:Zac)(b:Nat):Value := .agg #[.slice Ar s.rules.length cr,.slice Az s.zones.length cz,.slice Al s.links.length cl,.slice As s.shifts.length cs,.map (some b)]
def BkR (rs:List Zab)(b:Nat)(e:DEra)(R:List It)(v:Value)(O':List It):Prop :=
 ∃ A c m' S',v = .slice A (ruEr rs e).length c/\KnP rs m'/\O' = .mp b m' :: .fact S' (fun w=>KnAt rs m' w/\RdSl w A c Zab.enc 11 (ruEr rs e))::R
theorem Zgz {P:Program}{f:FuncId}{args:List Value}{w:World}{I:List It}{R R':Value->List It->Prop}(h:Zak P f args w I R)(hr:∀ v O base w',R v O->Zau base O w'->∃ O',R' v O'/\Zau base O' w'):Zak P f args w I R':=by
 unfold Zak at h ⊢
 exact fun w' hB hH=>Calls.mono (h w' hB hH) fun _ _ ⟨v,O,h1,h2,h3,h4⟩=>by
  obtain⟨O',h5,h6⟩:=hr v O _ _ h4 h3
  exact⟨v,O',h1,h2,h6,h5⟩
theorem ZAs {G:Prop}(h:G:=by(first|(apply ZaH;rfl;rfl;exact b1)|(apply Zcl;rfl;rfl;(focus repeat' constructor);exact hv;exact hs))):G:=h
theorem Zp7 (Ar Az Al As:Option Addr)(cr cz cl cs:Nat)(s:Zac)(b:Nat)(m:List (ByteArray × Value))(S:Nat->Prop)(P:World->Prop)(R:List It)(e:DEra)(wr:World)(hA:Zan wr Ar Az Al As cr cz cl cs s)(hn:s.rules.length<=1000000)(hP:KnP s.rules m)(hK:∀ w,P w->KnAt s.rules m w) :
  Zak Tryz.prog 111 [ZCB Ar Az Al As cr cz cl cs s b,.agg e.enc.toArray] wr (.mp b m :: .fact S P::R) (BkR s.rules b e R):=by
 have hof:=fun w' (hw:Bel wr.heap.size wr w')=>Zdf Ar Az Al As cr cz cl cs s e.set w' (hA.up hw) hn
 unfold BkR ruEr
 obtain⟨off,kd,esv,st,fm,⟨ui,uy,um,⟨ud1,ud2,ud3⟩,⟨uc1,uc2⟩⟩⟩:=e
 dsimp only at hof ⊢
 show Zak _ _ [.agg #[.slice Ar s.rules.length cr,.slice Az s.zones.length cz,.slice Al s.links.length cl,.slice As s.shifts.length cs,.map (some b)],.agg #[.int .i64 off,.int .i64 kd,.int .i64 esv,.string st,.string fm,.bool ui,.int .i64 uy,.int .i64 um,.int .i64 ud1,.int .i64 ud2,.int .i64 ud3,.int .i64 uc1,.int .i64 uc2]] wr _ _
 by_cases hk:kd=2
 ·have b1:(!decide (kd=2))=false:=by rw[decide_eq_true hk];rfl
  rw[if_pos hk]
  cases hg:mget m st with
  | some v =>
   obtain⟨A,c,rfl⟩:=hP st v hg
   have hv:(mget m st).getD (.slice none 0 0) = .slice A (ofB s.rules st).length c:=by rw[hg];rfl
   have hs:(mget m st).isSome=true:=by rw[hg];rfl
   refine ZaD Tryz.func111 rfl rfl rfl rfl ?_
   refine ZeM [.fact S P] (.mp b m::R) (fun w=>KnAt s.rules m w/\RdSl w A c Zab.enc 11 (ofB s.rules st)) (.cons (.there .here) (.cons .here (.refl _))) (fun w' hi=>⟨hK _ (Za6 (hi _ List.mem_cons_self)),hK _ (Za6 (hi _ List.mem_cons_self)) st A _ c hg⟩) ?_
   repeat (first|(apply RL_pu;rfl;exact ZAs)|(refine js ?_;(refine bx ?_;intro bk))|refine walk1 ?_)
   exact ret_1 _ _ (.tmp rfl) (.drop (.drop (.cons (.there .here) (.cons .here (.refl _))))) ⟨A,c,m,_,rfl,hP,rfl⟩
  | none =>
   have hv:(mget m st).getD (.slice none 0 0) = .slice none 0 0:=by rw[hg];rfl
   have hs:(mget m st).isSome=false:=by rw[hg];rfl
   refine Zgz (R:=fun v O=>∃ A3 c3,v = .slice A3 (ofB s.rules st).length c3/\O=[.fact S P,.row (.slice A3 (ofB s.rules st).length c3) 56 11 (ofB s.rules st).length ((ofB s.rules st).flatMap Zab.enc)]++(.mp b (mset m st (.slice A3 (ofB s.rules st).length c3))::R)) ?_ ?_
   ·refine ZaD Tryz.func111 rfl rfl rfl rfl ?_
    repeat (first|(apply RL_pu;rfl;exact ZAs)|(refine js ?_;(first|(apply Zad (h:=fun w' hw _=>hof w' hw);rfl;rintro v O' ⟨A3,c3,rfl,rfl⟩)|(refine bx ?_;intro bk)))|refine walk1 ?_)
    exact ret_1 _ _ (.tmp rfl) (.cons (.there (.there (.there (.there .here)))) (.cons .here (.cons (.there (.there .here)) (.drop (.drop (.refl _)))))) ⟨A3,c3,rfl,rfl⟩
   ·rintro v O base w' ⟨A3,c3,rfl,rfl⟩ hH
    have hrr:∀ w',(∀ i∈[It.fact S P,.row (.slice A3 (ofB s.rules st).length c3) 56 11 (ofB s.rules st).length ((ofB s.rules st).flatMap Zab.enc)],i.sat w')->KnAt s.rules (mset m st (.slice A3 (ofB s.rules st).length c3)) w'/\RdSl w' A3 c3 Zab.enc 11 (ofB s.rules st):=by
     intro w' hi
     have h1:=hK _ (Za6 (hi _ List.mem_cons_self))
     have h2:=Zbc Zab.len (hi _ (List.mem_cons_of_mem _ List.mem_cons_self))
     refine⟨fun k A n c hk=>?_,h2⟩
     rw[Zed]at hk
     by_cases hks:k=st
     ·subst hks
      rw[if_pos rfl]at hk
      cases hk
      exact h2
     ·rw[if_neg hks]at hk
      exact h1 k A n c hk
    refine⟨_,⟨A3,c3,mset m st (.slice A3 (ofB s.rules st).length c3),foot [It.fact S P,.row (.slice A3 (ofB s.rules st).length c3) 56 11 (ofB s.rules st).length ((ofB s.rules st).flatMap Zab.enc)],rfl,fun k v hk=>?_,rfl⟩,(hH.fact hrr).sub (.cons (.there .here) (.cons .here (.refl _)))⟩
    rw[Zed]at hk
    by_cases hks:k=st
    ·subst hks
     rw[if_pos rfl]at hk
     cases hk
     exact⟨A3,c3,rfl⟩
    ·rw[if_neg hks]at hk
     exact hP k v hk
 ·have b1:(!decide (kd=2))=true:=by rw[decide_eq_false hk];rfl
  rw[if_neg hk]
  refine ZaD Tryz.func111 rfl rfl rfl rfl ?_
  refine ZeM [.fact S P] (.mp b m::R) (fun w=>KnAt s.rules m w/\RdSl w none 0 Zab.enc 11 []) (.cons (.there .here) (.cons .here (.refl _))) (fun w' hi=>⟨hK _ (Za6 (hi _ List.mem_cons_self)),ZuS _ _ _⟩) ?_
  repeat (first|(apply RL_pu;rfl;(apply ZaH;rfl;rfl;exact b1))|(refine js ?_;(refine bx ?_;intro bk))|refine walk1 ?_)
  exact ret_1 _ _ (.tmp rfl) (.drop (.drop (.cons (.there .here) (.cons .here (.refl _))))) ⟨none,0,m,_,rfl,hP,rfl⟩
end Go.Proofs.YtbjomhdhkpgbaaaGreatDoor
set_option maxHeartbeats 8000000
namespace Go.Proofs.YtbjomhdhkpgbaaaGreatDoor
open Go Go.RowKit Go.Wk
attribute [local irreducible] W RL Does Zar Zal retQ Calls Pu Stp RD Qy Ay Zak
abbrev drB (bD:Nat)(Ar Az Al As:Option Addr)(cr cz cl cs:Nat)(s:Zac):It := .blk bD (srcC Ar Az Al As cr cz cl cs s) 94
def drF (wr:World)(Ar Az Al As:Option Addr)(cr cz cl cs:Nat)(s:Zac):World->Prop:=fun w=>Bel wr.heap.size wr w->Zan w Ar Az Al As cr cz cl cs s
def DrAt (wr:World)(bD:Nat)(s:Zac)(R O:List It):Prop:=∃ Ar Az Al As cr cz cl cs S,O=drB bD Ar Az Al As cr cz cl cs s :: .fact S (drF wr Ar Az Al As cr cz cl cs s)::R
def ZC6 (bD:Nat)(s:Zac)(R O:List It):Prop:=∃ Ar Az Al As cr cz cl cs Zs S,Zs.map ZE.z=s.zones/\O=drB bD Ar Az Al As cr cz cl cs s::rowR Ar cr s.rules::rowZ Az cz Zs::rowL Al cl s.links::rowS As cs s.shifts :: .fact S (ZaN Zs)::R
theorem ZDi {wr:World}{bD:Nat}{s:Zac}{R O:List It}{base:Nat}{w:World}(h:ZC6 bD s R O)(hH:Zau base O w):∃ O',DrAt wr bD s R O'/\Zau base O' w:=by
 obtain⟨Ar,Az,Al,As,cr,cz,cl,cs,Zs,S,hz,rfl⟩:=h
 refine⟨_,⟨Ar,Az,Al,As,cr,cz,cl,cs,foot [rowR Ar cr s.rules,rowZ Az cz Zs,rowL Al cl s.links,rowS As cs s.shifts,.fact S (ZaN Zs)],rfl⟩,?_⟩
 have h1:Zau base ([rowR Ar cr s.rules,rowZ Az cz Zs,rowL Al cl s.links,rowS As cs s.shifts,.fact S (ZaN Zs)]++(drB bD Ar Az Al As cr cz cl cs s::R)) w:=hH.perm (List.perm_middle (l₁:=[_,_,_,_,_])).symm
 have h2:=h1.fact (p:=drF wr Ar Az Al As cr cz cl cs s) fun w2 hi _=>Zbt hz (hi _ (.head _)) (hi _ (.tail _ (.head _))) (hi _ (.tail _ (.tail _ (.head _)))) (hi _ (.tail _ (.tail _ (.tail _ (.head _))))) (hi _ (.tail _ (.tail _ (.tail _ (.tail _ (.head _))))))
 exact h2.perm (List.Perm.swap _ _ _)
theorem ZpW {f:FuncId}{args:List Value}{wr:World}{I:List It}{bD:Nat}{s:Zac}{R:List It}(h:Zak Tryz.prog f args wr I fun v O=>v = .tuple #[]/\ZC6 bD s R O):Zak Tryz.prog f args wr I fun v O=>v = .tuple #[]/\DrAt wr bD s R O :=
 Zgz h fun v O base w' ⟨hv,hr⟩ hH=>by
  obtain⟨O',h1,h2⟩:=ZDi (wr:=wr) hr hH
  exact⟨O',⟨hv,h1⟩,h2⟩
theorem ZiK (bD:Nat)(Ar Az Al As A3 A2 A4 A5:Option Addr)(cr cz cl cs c3 c2 c4 c5:Nat)(s t:Zac)(R:List It)(wr:World) :
  Zak Tryz.prog 145 [.pointer (some ⟨bD,0,none⟩),srcV A3 A2 A4 A5 c3 c2 c4 c5 t,.int .i64 0] wr (drB bD Ar Az Al As cr cz cl cs s::R) (fun v O=>v = .tuple #[]/\O=drB bD A3 A2 A4 A5 c3 c2 c4 c5 t::R):=by
 have e0:(!decide ((0:Int)=0))=false:=rfl
 unfold srcV drB srcC
 refine ZaD Tryz.func145 rfl rfl rfl rfl ?_
 repeat (first|(apply RL_pu;rfl;(apply ZaH;rfl;rfl;exact e0))|(refine js ?_;(refine bx ?_;intro bk))|refine walk1 ?_)
 exact ZgI _ STA ⟨rfl,rfl⟩
theorem Fits.erasS {a:Zac}(h:Fits a)(f:DEra->DEra):Fits (erasS f a):=by
 obtain⟨h1,h2,h3,h4,h5⟩:=h
 refine⟨h1,by unfold Go.Proofs.YtbjomhdhkpgbaaaGreatDoor.erasS;rw[List.length_map];exact h2,h3,h4,fun z hz=>?_⟩
 obtain⟨z',hz',rfl⟩:=List.mem_map.1 hz
 unfold Za4
 rw[List.length_map]
 exact h5 z' hz'
theorem Fits.shiftS {a:Zac}(h:Fits a)(set:ByteArray)(x:Int):Fits (shiftS set x a):=by
 obtain⟨h1,h2,h3,h4,h5⟩:=h.erasS (shE set x)
 exact⟨by unfold Go.Proofs.YtbjomhdhkpgbaaaGreatDoor.shiftS;rw[List.length_map];exact h1,h2,h3,h4,h5⟩
theorem Fits.byS {a:Zac}(h:Fits a)(set:ByteArray)(x:Int):Fits (byS a set x):=(h.shiftS set x).erasS (Zce set)
theorem Zuo {a:Zac}(h:∀ z∈a.zones,∀ e∈z.eras,e.format.size<=1000)(set:ByteArray)(x:Int):∀ z∈(shiftS set x a).zones,∀ e∈z.eras,e.format.size<=1000:=fun z hz e he=>by
 obtain⟨z',hz',rfl⟩:=List.mem_map.1 (show z∈a.zones.map (Za4 (shE set x)) from hz)
 obtain⟨e',he',rfl⟩:=List.mem_map.1 (show e∈z'.eras.map (shE set x) from he)
 unfold shE
 split
 ·exact h z' hz' e' he'
 ·exact h z' hz' e' he'
theorem ZxQ {a:Zac}(h:srcM a=true):∀ z∈a.zones,∀ e∈z.eras,e.format.size<=1000:=fun z hz e he=>(ZpT (ZlC h hz he)).2.2.2
theorem Zv3 (bD:Nat)(Ar Az Al As:Option Addr)(cr cz cl cs:Nat)(S:Nat->Prop)(s:Zac)(set:ByteArray)(y:Int)(R:List It)(wr:World)(hL:LibW wr)(hn:Fits s)(hg:rngB s set y=true) :
  Zak Tryz.prog 144 [.pointer (some ⟨bD,0,none⟩),.string set,.int .i64 y] wr (drB bD Ar Az Al As cr cz cl cs s :: .fact S (drF wr Ar Az Al As cr cz cl cs s)::R) (fun v O=>v = .tuple #[]/\DrAt wr bD (byS s set y) R O):=by
 have hf:∀ z∈(shiftS set y s).zones,∀ e∈z.eras,e.format.size<=1000:=Zuo (ZxQ (by
  unfold rngB at hg
  rw[Bool.and_eq_true,Bool.and_eq_true]at hg
  exact hg.2.1)) set y
 refine ZpW ?_
 unfold drB srcC
 refine ZaD Tryz.func144 rfl rfl rfl rfl ?_
 repeat (first|(refine js ?_;(first|(apply Zad (h:=fun w' hw hO=>Zsx Ar Az Al As cr cz cl cs s set y w' ((Za6 (hO.of (A := .fact S (drF wr Ar Az Al As cr cz cl cs s)) (by repeat' constructor)):drF wr Ar Az Al As cr cz cl cs s w') hw) hn hg);rfl;rintro v O' ⟨u,rfl,A3,c3,A2,c2,A4,c4,A5,c5,Zs,S2,rfl,hZs,rfl⟩)|(apply ZaM (h:=ZiK bD Ar Az Al As A3 A2 A4 A5 cr cz cl cs c3 c2 c4 c5 s (shiftS set y s) _ wr);rfl;exact .cons (by repeat' constructor) (.refl _);rintro v O' ⟨rfl,rfl⟩)|(apply Zad (h:=fun w' hw hO=>(Zxy A3 A2 A4 A5 c3 c2 c4 c5 (shiftS set y s) set w' (hL.up hw) (Zbt hZs (hO.of (A:=rowR A3 c3 (shiftS set y s).rules) (by repeat' constructor)) (hO.of (A:=rowZ A2 c2 Zs) (by repeat' constructor)) (hO.of (A:=rowL A4 c4 (shiftS set y s).links) (by repeat' constructor)) (hO.of (A:=rowS A5 c5 (shiftS set y s).shifts) (by repeat' constructor)) (hO.of (A := .fact S2 (ZaN Zs)) (by repeat' constructor))) (hn.shiftS set y) hf).monoO fun _ _ h=>ZcX h);rfl;rintro v O' ⟨A6,c6,A7,c7,A8,c8,A9,c9,Z6,S6,rfl,hZ6,rfl⟩)))|refine walk ?_)
 exact ZgI _ STA ⟨rfl,A6,A7,A8,A9,c6,c7,c8,c9,Z6,S6,hZ6,rfl⟩
end Go.Proofs.YtbjomhdhkpgbaaaGreatDoor
set_option maxHeartbeats 8000000
namespace Go.Proofs.YtbjomhdhkpgbaaaGreatDoor
open Go Go.RowKit Go.Wk
attribute [local irreducible] W RL Does Zar Zal retQ Calls Pu Stp RD Qy Ay Zak
theorem ZyS {s:Zac}(h:conB s=true):∀ z∈s.zones,∀ e∈z.eras,conE s.rules e=true:=fun z hz e he=>List.all_eq_true.1 (List.all_eq_true.1 h z hz) e he
theorem ZyM {s:Zac}(h:expB s=true):∀ z∈s.zones,∀ e∈z.eras,expZ s.rules e=true:=fun z hz e he=>List.all_eq_true.1 (List.all_eq_true.1 h z hz) e he
theorem Zl6 (bD:Nat)(Ar Az Al As:Option Addr)(cr cz cl cs:Nat)(S:Nat->Prop)(s:Zac)(R:List It)(wr:World)(hL:LibW wr)(hn:Fits s)(hm:srcM s=true)(hc:conB s=true) :
  Zak Tryz.prog 103 [.pointer (some ⟨bD,0,none⟩)] wr (drB bD Ar Az Al As cr cz cl cs s :: .fact S (drF wr Ar Az Al As cr cz cl cs s)::R) (fun v O=>v = .tuple #[]/\DrAt wr bD (ZaL s) R O):=by
 refine ZpW ?_
 unfold drB srcC ZaL
 refine ZaD Tryz.func103 rfl rfl rfl rfl ?_
 repeat (first|(refine js ?_;(first|(apply Zad (h:=fun w' hw hO=>ZmE Ar Az Al As cr cz cl cs s w' (hL.up hw) ((Za6 (hO.of (A := .fact S (drF wr Ar Az Al As cr cz cl cs s)) (by repeat' constructor)):drF wr Ar Az Al As cr cz cl cs s w') hw) hn hm (ZyS hc));rfl;rintro v O' ⟨u,rfl,A3,c3,A2,c2,A4,c4,A5,c5,Zs,S2,rfl,hZs,rfl⟩)|(apply ZaM (h:=ZiK bD Ar Az Al As A3 A2 A4 A5 cr cz cl cs c3 c2 c4 c5 s (erasS Zct s) _ wr);rfl;exact .cons (by repeat' constructor) (.refl _);rintro v O' ⟨rfl,rfl⟩)))|refine walk ?_)
 exact ZgI _ STA ⟨rfl,A3,A2,A4,A5,c3,c2,c4,c5,Zs,S2,hZs,rfl⟩
theorem Zl0 (bD:Nat)(Ar Az Al As:Option Addr)(cr cz cl cs:Nat)(S:Nat->Prop)(s:Zac)(R:List It)(wr:World)(hn:Fits s)(hm:srcM s=true)(hc:expB s=true) :
  Zak Tryz.prog 104 [.pointer (some ⟨bD,0,none⟩)] wr (drB bD Ar Az Al As cr cz cl cs s :: .fact S (drF wr Ar Az Al As cr cz cl cs s)::R) (fun v O=>v = .tuple #[]/\DrAt wr bD (Zb4 s) R O):=by
 refine ZpW ?_
 unfold drB srcC Zb4
 refine ZaD Tryz.func104 rfl rfl rfl rfl ?_
 repeat (first|(refine js ?_;(first|(apply Zad (h:=fun w' hw hO=>ZqL Ar Az Al As cr cz cl cs s w' ((Za6 (hO.of (A := .fact S (drF wr Ar Az Al As cr cz cl cs s)) (by repeat' constructor)):drF wr Ar Az Al As cr cz cl cs s w') hw) hn hm (ZyM hc));rfl;rintro v O' ⟨u,rfl,A3,c3,A2,c2,A4,c4,A5,c5,Zs,S2,rfl,hZs,rfl⟩)|(apply ZaM (h:=ZiK bD Ar Az Al As A3 A2 A4 A5 cr cz cl cs c3 c2 c4 c5 s (erasS (expE s.rules) s) _ wr);rfl;exact .cons (by repeat' constructor) (.refl _);rintro v O' ⟨rfl,rfl⟩)))|refine walk ?_)
 exact ZgI _ STA ⟨rfl,A3,A2,A4,A5,c3,c2,c4,c5,Zs,S2,hZs,rfl⟩
structure DrG where
 k:Nat
 Ar:Option Addr
 Az:Option Addr
 Al:Option Addr
 As:Option Addr
 cr:Nat
 cz:Nat
 cl:Nat
 cs:Nat
 s:Zac
 S:Nat->Prop
def ZC7 (wr:World)(bD:Nat)(s:Zac)(R O:List It):Prop:=∃ Ar Az Al As cr cz cl cs S,O = .blk bD [.slice Ar s.rules.length cr,.slice Az s.zones.length cz,.slice Al s.links.length cl,.slice none 0 0] 94 :: .fact S (drF wr Ar Az Al As cr cz cl cs s)::R
theorem ZyP {wr:World}{bD:Nat}{s:Zac}{R O:List It}{base:Nat}{w:World}(h:ZC7 wr bD s R O)(hH:Zau base O w):∃ O',DrAt wr bD { s with shifts:=[] } R O'/\Zau base O' w:=by
 obtain⟨Ar,Az,Al,As,cr,cz,cl,cs,S,rfl⟩:=h
 refine⟨_,⟨Ar,Az,Al,none,cr,cz,cl,0,foot [.fact S (drF wr Ar Az Al As cr cz cl cs s)],rfl⟩,?_⟩
 have h1:Zau base ([.fact S (drF wr Ar Az Al As cr cz cl cs s)]++(drB bD Ar Az Al none cr cz cl 0 { s with shifts:=[] }::R)) w:=hH.perm (List.Perm.swap _ _ _)
 have h2:=h1.fact (p:=drF wr Ar Az Al none cr cz cl 0 { s with shifts:=[] }) fun w2 hi hB=>by
  have h:=Za6 (hi _ (.head _)) hB
  exact⟨h.r,h.zle,h.zcap,h.z,h.l,ZuS _ _ _⟩
 exact h2.perm (List.Perm.swap _ _ _)
theorem ZmO (bD:Nat)(Ar Az Al As:Option Addr)(cr cz cl cs:Nat)(S:Nat->Prop)(s:Zac)(R:List It)(wr:World)(hL:LibW wr)(hn:Fits s)(hu:unB s.shifts s=true) :
  Zak Tryz.prog 102 [.pointer (some ⟨bD,0,none⟩)] wr (drB bD Ar Az Al As cr cz cl cs s :: .fact S (drF wr Ar Az Al As cr cz cl cs s)::R) (fun v O=>v = .tuple #[]/\DrAt wr bD (ZaC s) R O):=by
 refine Zgz (R:=fun v O=>v = .tuple #[]/\ZC7 wr bD (unGo s.shifts s) R O) ?_ fun v O base w' ⟨hv,hr⟩ hH=>by
  obtain⟨O',h1,h2⟩:=ZyP hr hH
  exact⟨O',⟨hv,h1⟩,h2⟩
 unfold drB srcC
 refine ZaD Tryz.func102 rfl rfl rfl rfl ?_
 repeat (first|(refine js ?_;(apply Zad (h:=fun w' hw hO=>ZcE As cs s.shifts w' (Zan.s ((Za6 (hO.of (A := .fact S (drF wr Ar Az Al As cr cz cl cs s)) (by repeat' constructor)):drF wr Ar Az Al As cr cz cl cs s w') hw)) hn.s);rfl;rintro v O' ⟨A2,c2,rfl,rfl⟩))|refine walk ?_)
 generalize hl0:s.shifts=L at *
 have hll:L.length<=1000000:=by rw[<- hl0];exact hn.s
 generalize hTT:unGo L s=T
 refine Zha (fun g:DrG=>[(13,.int .i64 g.k),(0,_),(11,_),(12,_)]) (fun g => .blk bD [.slice g.Ar g.s.rules.length g.cr,.slice g.Az g.s.zones.length g.cz,.slice g.Al g.s.links.length g.cl,.slice g.As g.s.shifts.length g.cs] 94 :: .fact g.S (drF wr g.Ar g.Az g.Al g.As g.cr g.cz g.cl g.cs g.s) :: .row (.slice A2 L.length c2) 9 1 L.length (L.flatMap Zav)::R)
  (fun g=>g.k<=L.length/\Fits g.s/\unB (L.drop g.k) g.s=true/\unGo (L.drop g.k) g.s=T) (fun g=>L.length - g.k) ⟨0,Ar,Az,Al,As,cr,cz,cl,cs,s,S⟩ SFA (by dsimp only;rw[hl0];exact STA) ⟨Nat.zero_le _,hn,hu,hTT⟩ ?_
 clear hu hTT hl0 hn
 clear Ar Az Al As cr cz cl cs S s
 rintro⟨k,Ar,Az,Al,As,cr,cz,cl,cs,s,S⟩ ⟨hk,hs,hu,hT⟩
 dsimp only at hk hs hu hT ⊢
 repeat (first|refine walk ?_)
 refine Zah rfl (fun hc=>?_) (fun hc=>?_)
 ·have hkl:k<L.length:=by
   have:=of_decide_eq_true hc
   omega
  obtain⟨x,hx⟩:∃ x,L[k]?=some x:=⟨_,List.getElem?_eq_getElem hkl⟩
  have hdr:=getElem?_drop hx
  rw[hdr,unB,Bool.and_eq_true]at hu
  rw[hdr,unGo]at hT
  obtain⟨hg,hu⟩:=hu
  have hget:(L.flatMap Zav)[(k:Int).toNat*1]?=some (.string x):=by
   have:=ZaK Zav.len L k x 0 _ hx rfl
   simpa using this
  have hng : -9223372036854775807<=(Zbo (ofB s.rules x)).1/\(Zbo (ofB s.rules x)).1<=9223372036854775807:=by
   have h:=hg
   unfold rngB at h
   rw[Bool.and_eq_true,Bool.and_eq_true,ZbU]at h
   omega
  repeat (first|(apply RL_pu;rfl;(first|(apply ZaB;rfl;rfl;omega;omega;(intro w' _ hO;exact Zca (hO.of (A := .row (.slice A2 _ c2) _ _ _ _) (by repeat' constructor)) (by omega)))|(apply ZdU;rfl;(focus repeat' constructor);exact hget)|(apply Zhe;rfl;exact hng)))|(refine js ?_;(first|(apply Zad (h:=fun w' hw hO=>Zdf Ar Az Al As cr cz cl cs s x w' ((Za6 (hO.of (A := .fact S (drF wr Ar Az Al As cr cz cl cs s)) (by repeat' constructor)):drF wr Ar Az Al As cr cz cl cs s w') hw) hs.r);rfl;rintro v O' ⟨A3,c3,rfl,rfl⟩)|(refine ZaX (fun w' _ hO=>Zhu A3 c3 (ofB s.rules x) w' (Zbc Zab.len (hO.of (A := .row (.slice A3 (ofB s.rules x).length c3) _ _ _ _) (by repeat' constructor)))) ?_)|(apply ZaM (h:=Zv3 bD Ar Az Al As cr cz cl cs S s x _ _ wr hL hs hg);rfl;exact .cons (by repeat' constructor) (.cons (by repeat' constructor) (.refl _));rintro v O' ⟨rfl,Ar',Az',Al',As',cr',cz',cl',cs',S',rfl⟩)))|refine walk1 ?_)
  exact⟨⟨k+1,Ar',Az',Al',As',cr',cz',cl',cs',_,S'⟩,OA,⟨hkl,hs.byS _ _,hu,hT⟩,SFA,STA⟩
 ·obtain rfl:k=L.length:=by
   have:=of_decide_eq_false hc
   omega
  rw[List.drop_length,unGo]at hT
  subst hT
  repeat (first|refine walk ?_)
  exact ZgI _ STA ⟨rfl,Ar,Az,Al,As,cr,cz,cl,cs,S,rfl⟩
theorem ZAI {w:World}{Ar Az Al As A7:Option Addr}{cr cz cl cs c7:Nat}{t:Zac}{l:List ByteArray}{x:ByteArray}(hl:t.shifts=l)(h:Zan w Ar Az Al As cr cz cl cs t)(hr:(It.row (.slice A7 (t.shifts.length+1) c7) 9 1 (t.shifts.length+1) (t.shifts.flatMap Zav++[.string x])).sat w):Zan w Ar Az Al A7 cr cz cl c7 { t with shifts:=l++[x] }:=by
 subst hl
 refine⟨h.r,h.zle,h.zcap,h.z,h.l,?_⟩
 have e:t.shifts.flatMap Zav++[.string x]=(t.shifts++[x]).flatMap Zav:=by simp[Zav]
 have e2:t.shifts.length+1=(t.shifts++[x]).length:=by simp
 rw[e,e2]at hr
 exact Zbc Zav.len hr
theorem Zm5 (bD:Nat)(Ar Az Al As:Option Addr)(cr cz cl cs:Nat)(S:Nat->Prop)(s:Zac)(R:List It)(wr:World)(hL:LibW wr)(hn:Fits s)(hsh:s.shifts.length+(ZaS s.rules []).length<=1000000)(hu:reB (ZaS s.rules []) s=true) :
  Zak Tryz.prog 105 [.pointer (some ⟨bD,0,none⟩)] wr (drB bD Ar Az Al As cr cz cl cs s :: .fact S (drF wr Ar Az Al As cr cz cl cs s)::R) (fun v O=>v = .tuple #[]/\DrAt wr bD (ZsE s) R O):=by
 unfold drB srcC
 refine ZaD Tryz.func105 rfl rfl rfl rfl ?_
 repeat (first|(refine js ?_;(first|(apply Zad (h:=fun w' hw hO=>ZkO Ar Az Al As cr cz cl cs s w' ((Za6 (hO.of (A := .fact S (drF wr Ar Az Al As cr cz cl cs s)) (by repeat' constructor)):drF wr Ar Az Al As cr cz cl cs s w') hw) hn.r);rfl;rintro v O' ⟨A2,c2,rfl,rfl⟩)|(refine bx ?_;intro bk)))|refine walk ?_)
 unfold ZsE
 generalize hl0:ZaS s.rules []=L at *
 generalize hTT:ZeU L s=T
 have hll:L.length<=1000000:=by omega
 refine Zha (fun g:DrG=>[(11,.int .i64 g.k),(0,_),(9,_),(10,_)]) (fun g => .blk bD [.slice g.Ar g.s.rules.length g.cr,.slice g.Az g.s.zones.length g.cz,.slice g.Al g.s.links.length g.cl,.slice g.As g.s.shifts.length g.cs] 94 :: .fact g.S (drF wr g.Ar g.Az g.Al g.As g.cr g.cz g.cl g.cs g.s) :: .row (.slice A2 L.length c2) 9 1 L.length (L.flatMap Zav)::R)
  (fun g=>g.k<=L.length/\Fits g.s/\g.s.shifts.length+(L.length - g.k)<=1000000/\reB (L.drop g.k) g.s=true/\ZeU (L.drop g.k) g.s=T) (fun g=>L.length - g.k) ⟨0,Ar,Az,Al,As,cr,cz,cl,cs,s,S⟩ SFA STA ⟨Nat.zero_le _,hn,by dsimp only;omega,hu,hTT⟩ ?_
 clear hu hTT hl0 hn hsh
 clear Ar Az Al As cr cz cl cs S s
 rintro⟨k,Ar,Az,Al,As,cr,cz,cl,cs,s,S⟩ ⟨hk,hs,hsz,hu,hT⟩
 dsimp only at hk hs hu hT hsz ⊢
 repeat (first|(refine js ?_;(refine bx ?_;intro bk))|refine walk ?_)
 refine Zah rfl (fun hc=>?_) (fun hc=>?_)
 ·have hkl:k<L.length:=by
   have:=of_decide_eq_true hc
   omega
  obtain⟨x,hx⟩:∃ x,L[k]?=some x:=⟨_,List.getElem?_eq_getElem hkl⟩
  have hdr:=getElem?_drop hx
  rw[hdr,reB]at hu
  rw[hdr,ZeU]at hT
  have hget:(L.flatMap Zav)[(k:Int).toNat*1]?=some (.string x):=by
   have:=ZaK Zav.len L k x 0 _ hx rfl
   simpa using this
  by_cases hlt:Zaj (ofB s.rules x)<0
  ·rw[if_pos hlt]at hT
   rw[if_pos hlt,Bool.and_eq_true]at hu
   obtain⟨hg,hu⟩:=hu
   have e1:decide (Zaj (ofB s.rules x)<0)=true:=decide_eq_true hlt
   have hng : -9223372036854775807<=Zaj (ofB s.rules x)/\Zaj (ofB s.rules x)<=9223372036854775807:=by
    have h:=hg
    unfold rngB at h
    rw[Bool.and_eq_true,Bool.and_eq_true,ZbU]at h
    omega
   have hby:=fun R=>Zv3 bD Ar Az Al As cr cz cl cs S s x (-Zaj (ofB s.rules x)) R wr hL hs hg
   have hst:(byS s x (-Zaj (ofB s.rules x))).shifts=s.shifts:=rfl
   have hft0:=hs.byS x (-Zaj (ofB s.rules x))
   generalize byS s x (-Zaj (ofB s.rules x))=t at *
   have hbl:t.shifts.length=s.shifts.length:=by rw[hst]
   have hbn:t.shifts.length<=1000000:=by omega
   have hsl:(s.shifts++[x]).length=t.shifts.length+1:=by rw[hbl];simp
   have hft:Fits ({ t with shifts:=s.shifts++[x] }):=by
    obtain⟨h1,h2,h3,h4,h5⟩:=hft0
    exact⟨h1,h2,h3,by dsimp only;rw[hsl];omega,h5⟩
   repeat (first|(refine ZeM [.fact S' (drF wr Ar' Az' Al' As' cr' cz' cl' cs' t),.row (.slice A7 (t.shifts.length+1) c7) 9 1 (t.shifts.length+1) (t.shifts.flatMap Zav++[.string x])] (.blk bD [.slice Ar' t.rules.length cr',.slice Az' t.zones.length cz',.slice Al' t.links.length cl',.slice A7 (t.shifts.length+1) c7] 94 :: .row (.slice A2 L.length c2) 9 1 L.length (L.flatMap Zav)::R) (drF wr Ar' Az' Al' A7 cr' cz' cl' c7 { t with shifts:=s.shifts++[x] }) (.cons (.there (.there (.there .here))) (.cons (.there .here) (.cons (.there .here) (.cons (.there (.there .here)) (.drop (.drop (.refl _))))))) (fun w' hi hB=>ZAI hst (Za6 (hi _ (.head _)) hB) (hi _ (.tail _ (.head _)))) ?_)|(apply RL_pu;rfl;(first|(apply ZaB;rfl;rfl;omega;omega;(intro w' _ hO;exact Zca (hO.of (A := .row (.slice A2 _ c2) _ _ _ _) (by repeat' constructor)) (by omega)))|(apply ZdU;rfl;(focus repeat' constructor);exact hget)|(apply Za2;rfl;rfl;exact e1)|(apply Zhe;rfl;exact hng)))|(refine js ?_;(first|(apply Zad (h:=fun w' hw hO=>Zdf Ar Az Al As cr cz cl cs s x w' ((Za6 (hO.of (A := .fact S (drF wr Ar Az Al As cr cz cl cs s)) (by repeat' constructor)):drF wr Ar Az Al As cr cz cl cs s w') hw) hs.r);rfl;rintro v O' ⟨A3,c3,rfl,rfl⟩)|(refine ZaX (fun w' _ hO=>Zch A3 c3 (ofB s.rules x) w' (Zbc Zab.len (hO.of (A := .row (.slice A3 (ofB s.rules x).length c3) _ _ _ _) (by repeat' constructor)))) ?_)|(apply ZaM (h:=hby _);rfl;exact .cons (by repeat' constructor) (.cons (by repeat' constructor) (.refl _));rintro v O' ⟨rfl,Ar',Az',Al',As',cr',cz',cl',cs',S',rfl⟩)|(apply Zad (h:=fun w' hw hO=>ZcE As' cs' t.shifts w' (Zan.s ((Za6 (hO.of (A := .fact S' (drF wr Ar' Az' Al' As' cr' cz' cl' cs' t)) (by repeat' constructor)):drF wr Ar' Az' Al' As' cr' cz' cl' cs' t w') hw)) hbn);rfl;rintro v O' ⟨A4,c4,rfl,rfl⟩)|(apply Zay;rfl;rfl;(intro A' c';(focus repeat' constructor));(intro w' _ hO;exact Zbv (hO.of (by repeat' constructor)));rfl;rfl;(simp only[maxLen];omega);omega;intro A7 c7 hc1 hc2 hc3)|(refine bx ?_;intro bk)))|refine walk1 ?_)
   exact⟨⟨k+1,Ar',Az',Al',A7,cr',cz',cl',c7,{ t with shifts:=s.shifts++[x] },_⟩,OA,⟨hkl,hft,by dsimp only;rw[hsl];omega,hu,hT⟩,SFA,by dsimp only;rw[hsl];exact STA⟩
  ·rw[if_neg hlt]at hT hu
   have e1:decide (Zaj (ofB s.rules x)<0)=false:=decide_eq_false hlt
   repeat (first|(apply RL_pu;rfl;(first|(apply ZaB;rfl;rfl;omega;omega;(intro w' _ hO;exact Zca (hO.of (A := .row (.slice A2 _ c2) _ _ _ _) (by repeat' constructor)) (by omega)))|(apply ZdU;rfl;(focus repeat' constructor);exact hget)|(apply Za2;rfl;rfl;exact e1)))|(refine js ?_;(first|(apply Zad (h:=fun w' hw hO=>Zdf Ar Az Al As cr cz cl cs s x w' ((Za6 (hO.of (A := .fact S (drF wr Ar Az Al As cr cz cl cs s)) (by repeat' constructor)):drF wr Ar Az Al As cr cz cl cs s w') hw) hs.r);rfl;rintro v O' ⟨A3,c3,rfl,rfl⟩)|(refine ZaX (fun w' _ hO=>Zch A3 c3 (ofB s.rules x) w' (Zbc Zab.len (hO.of (A := .row (.slice A3 (ofB s.rules x).length c3) _ _ _ _) (by repeat' constructor)))) ?_)|(refine bx ?_;intro bk)))|refine walk1 ?_)
   exact⟨⟨k+1,Ar,Az,Al,As,cr,cz,cl,cs,s,S⟩,OA,⟨hkl,hs,by dsimp only;omega,hu,hT⟩,SFA,STA⟩
 ·obtain rfl:k=L.length:=by
   have:=of_decide_eq_false hc
   omega
  rw[List.drop_length,ZeU]at hT
  subst hT
  repeat (first|(refine js ?_;(refine bx ?_;intro bk))|refine walk ?_)
  exact ZgI _ STA ⟨rfl,Ar,Az,Al,As,cr,cz,cl,cs,S,rfl⟩
end Go.Proofs.YtbjomhdhkpgbaaaGreatDoor
namespace Go.Wk
open Go Go.RowKit
section
variable {P:Program}{n:Nat}{wr:World}{fr:Fr}{O:List It}{D:List Deferred}
theorem ZmD {f:FuncId}{fn:Func}{c:Code}{args:List Value}{w:World}{R:Ending->World->Prop}(hf:P.funcs[f]?=some fn)(hb:fn.body=some c)(hn:fn.ntmps=n)(ha:Nat.ble args.length n=true)
  (hB:Bel wr.heap.size wr w) (hH:Zau wr.heap.size O w) (h:Pre P n wr c (bodyPostD P fn R) (ZeW 0 args) O):Calls P f args.toArray w R:=by
 refine calls_of_wp_defers hf hb (h _ _ ?_)
 have ha':args.length<=n:=Nat.le_of_ble_eq_true ha
 refine⟨⟨rfl,by simp;omega,fun t v hv=>?_⟩,hB,hH⟩
 have:=(ZcD args 0 t v hv).2
 simp only[Nat.sub_zero]at this
 have hlt:t<args.length:=(List.getElem?_eq_some_iff.1 this).1
 rw[Array.getElem?_append_left (by simpa using hlt)]
 simpa using this
theorem Zxw {QQ:Exit->Act->World->Prop}{id d:Nat}{op1:Op}{ty0 ty1:TypeId}{p0 p1:String}{f0 f1:Array Edge}{gx:Operand}{ts:Array TypeId}{cs:List Value}{f:FuncId}{y:Code}(hd:Nat.ble (d+1) n=true)(h1:Pu P n wr fr O op1 ty0 (.func (.func f) #[] cs.toArray))(hg:ev ((d,.func (.func f) #[] cs.toArray)::fr) gx=some (.func (.func f) #[] cs.toArray))
  (k:∀ a w,St n wr ((d,.func (.func f) #[] cs.toArray)::fr) O a w->y.wp P QQ (actD [{ target := .fn (.func f) cs.toArray,args := #[] }] a) w) :
  Pre P n wr (.seq (.region id [⟨some d,op1,ty0,p0,f0,none⟩,⟨none,.defer ⟨.value gx,#[],ts⟩,ty1,p1,f1,none⟩].toArray false) y) QQ fr O:=by
 intro a w hs
 refine wp_seq (wp_region_lit ?_)
 have e1:=h1 a w hs (some d) p0 f0 none
 have hs2:St n wr ((d,.func (.func f) #[] cs.toArray)::fr) O (a.put (some d) (.func (.func f) #[] cs.toArray)) w:=⟨hs.sim.put hd _,hs.old,hs.own⟩
 have hk:=k _ _ hs2
 obtain⟨a2,ha2⟩:∃ a2,a.put (some d) (.func (.func f) #[] cs.toArray)=a2:=⟨_,rfl⟩
 rw[ha2]at hs2 hk
 unfold wpList
 rw[if_pos (by rfl)]
 left
 unfold Oper.wp
 rw[e1,Oper.upon_value]
 show wpList P _ _ [_] (a.put (some d) (.func (.func f) #[] cs.toArray)) w
 rw[ha2]
 unfold wpList
 rw[if_pos (by rfl)]
 left
 have e2:(execOp a2.eval ⟨none,.defer ⟨.value gx,#[],ts⟩,ty1,p1,f1,none⟩).run P w = .ok (.defer { target := .fn (.func f) cs.toArray,args := #[] }) w:=by
  simp[execOp,resolve,hs2.sim.ev hg,Deferred.ofValue]
 unfold Oper.wp
 rw[e2,Oper.upon_defer]
 unfold wpList
 show y.wp P QQ _ w
 have e3:({ a2 with defers:={ target := .fn (.func f) cs.toArray,args := #[] }::a2.defers }:Act).put none undef=actD [{ target := .fn (.func f) cs.toArray,args := #[] }] a2:=by
  rw[hs2.sim.defers]
  rfl
 rw[e3]
 exact hk
theorem ZBC {c:Code}{Q:Exit->Fr->List It->Prop}{G:Type}(FR:G->Fr)(OO:G->List It)(Inv:G->Prop)(μ:G->Nat)(g₀:G)(hf:Sub (FR g₀) fr)(hO:SubO (OO g₀) O)(h₀:Inv g₀)
  (round:∀ g,Inv g->WI Fence.wide D P n wr c (Zar (fun fr' O'=>∃ g',μ g'<μ g/\Inv g'/\Sub (FR g') fr'/\SubO (OO g') O') Q) (FR g) (OO g)):WI Fence.wide D P n wr (.loop c) Q fr O:=by
 intro a w hs
 refine(wpIn_wide (n:=0)).2 (wp_loop_ghost (fun m a w=>∃ g,μ g=m/\Inv g/\a.defers=D/\St n wr (FR g) (OO g) (actD [] a) w) (μ g₀) ⟨g₀,rfl,h₀,rfl,?_⟩ ?_)
 ·rw[ZdS hs]
  exact hs.sub hf hO
 rintro m a w ⟨g,rfl,hg,hd,hst⟩
 have h:=round g hg _ _ hst
 rw[Zc3 hd]at h
 refine wp_mono ((wpIn_wide (n:=0)).1 h) ?_
 rintro e a' w' ⟨hd',fr',O',hs',hq⟩
 cases e with
 | normal =>
  obtain⟨g',hlt,hg',hf',hO'⟩:=hq
  exact⟨μ g',hlt,g',rfl,hg',hd',hs'.sub hf' hO'⟩
 | _=>exact⟨hd',fr',O',hs',hq⟩
theorem Zso {ops:Array Oper}{Q:Exit->Act->List Frame->World->Prop}{a:Act}{cs:List Frame}{w:World}(h:Q .normal a cs w):wpOpsS P ops Q [] a cs w:=h
theorem Zsn {ops:Array Oper}{Q:Exit->Act->List Frame->World->Prop}{i:Nat}{rest:List Nat}{a:Act}{cs:List Frame}{w:World}{d:Nat}{ty:TypeId}{pos:String}{af:Array Edge}(ho:ops[i]?=some ⟨some d,.call ⟨.builtin .recover,#[],#[]⟩,ty,pos,af,none⟩)(hr:recoverD cs=none)(h:wpOpsS P ops Q rest (a.put (some d) .nilIface) cs w):wpOpsS P ops Q (i::rest) a cs w:=by
 unfold wpOpsS
 rw[ho]
 dsimp only
 rw[if_pos (by rfl)]
 have e:(execOp a.eval ⟨some d,.call ⟨.builtin .recover,#[],#[]⟩,ty,pos,af,none⟩).run P w = .ok .recover w:=by simp[execOp,resolve,invoke,builtin]
 rw[e]
 dsimp only
 rw[hr]
 exact h
theorem Zsm {ops:Array Oper}{Q:Exit->Act->List Frame->World->Prop}{i:Nat}{rest:List Nat}{a:Act}{cs:List Frame}{w:World}{d:Nat}{op:Op}{ty:TypeId}{pos:String}{af:Array Edge}{v:Value}(ho:ops[i]?=some ⟨some d,op,ty,pos,af,none⟩)(hs:St n wr fr O a w)(hp:Pu P n wr fr O op ty v)(h:wpOpsS P ops Q rest (a.put (some d) v) cs w):wpOpsS P ops Q (i::rest) a cs w:=by
 unfold wpOpsS
 rw[ho]
 dsimp only
 rw[if_pos (by rfl),hp a w hs]
 exact h
theorem W_at {c:Code}{Q:Exit->Fr->List It->Prop}{a:Act}{w:World}(h:W P n wr c Q fr O)(hs:St n wr fr O a w):c.wp P (lift n wr Q) a w:=h a w hs
theorem ZlK {c₀:Frame}{cs:List Frame}(hu:c₀.mode = .returning):recoverD (c₀::cs)=none:=by
 simp only[recoverD,hu]
end
end Go.Wk
set_option maxHeartbeats 2000000
namespace Go.Wk
open Go Go.RowKit
structure ZhN (s:Zac):Prop where
 nr:s.rules.length<=1000000
 nz:s.zones.length<=1000000
 nl:s.links.length<=1000000
 ns:s.shifts.length<=1000000
 rs:∀ r∈s.rules,r.name.size<=1000000000/\r.letter.size<=1000000000
 zs:∀ z∈s.zones,z.name.size<=1000000000/\z.eras.length<=1000000/\∀ e∈z.eras,e.set.size<=1000000000/\e.format.size<=1000000000
 ls:∀ l∈s.links,l.target.size<=1000000000/\l.name.size<=1000000000
def plV (p:Zas):Value := .agg (Zas.enc p).toArray
def ptV:Option (Zas × Int)->Value
 | none => .tuple #[plV ⟨0,0,0⟩,.int .i64 0]
 | some (p,e) => .tuple #[plV p,.int .i64 e]
end Go.Wk
namespace Go.Proofs.YtbjomhdhkpgbaaaGreatDoor
open Go Go.RowKit Go.Wk
attribute [local irreducible] W RL Does Zar Zal retQ Calls Pu Stp RD Qy Ay Zak
theorem ZsL (Ar Az Al As:Option Addr)(cr cz cl cs:Nat)(a:Zac)(b1:Nat)(mk:List (ByteArray × Value))(w:World)(hA:Zan w Ar Az Al As cr cz cl cs a)(hS:ZhN a)(h1:MpAt w b1 mk)(hk:IxM mk fun x=>Zbd x a.zones 0) :
  Does Tryz.prog 128 [srcV Ar Az Al As cr cz cl cs a,.map (some b1)] w (fun v O=>v=ptV (Zbg a a.zones 0)/\O=[]):=by
 have hn:=hS.nz
 obtain⟨res,hres⟩:∃ res,Zbg a a.zones 0=res:=⟨_,rfl⟩
 rw[hres]
 refine Zaa Tryz.func128 rfl rfl rfl rfl ?_
 repeat (first|(refine js ?_;(refine bx ?_;intro bk))|refine walk ?_)
 refine Zaq [(1,.map (some b1)),(4,.pointer (some ⟨bk,0,none⟩)),(10,.slice Az a.zones.length cz),(11,.int .i64 a.zones.length)] [.blk bk [.int .i64 0,.int .i64 0,.int .i64 0] 36] (fun k:Nat=>[(12,.int .i64 k)]) (fun _=>[]) (fun k=>k<=a.zones.length/\Zbg a (a.zones.drop k) k=res) (fun k=>a.zones.length - k) 0 SFA SOA ⟨Nat.zero_le _,hres⟩ ?_
 rintro k ⟨hkl,hi⟩
 obtain⟨b4,hb4⟩:∃ b4,bk=b4:=⟨_,rfl⟩
 rw[hb4]at *
 clear hb4 bk
 repeat (first|(refine js ?_;(refine bx ?_;intro bk))|refine walk ?_)
 refine Zah rfl (fun hc=>?_) (fun hc=>?_)
 ·simp only[decide_eq_true_eq,Int.ofNat_lt]at hc
  obtain⟨hna,cs1,⟨Ae,ce,_,rfl⟩,hca⟩:=hA.z k _ (List.getElem?_eq_getElem hc)
  have hmem:=List.getElem_mem hc
  rw[Zao hc,Zbg]at hi
  generalize a.zones[k]=z at *
  have hsz:=(hS.zs z hmem).1
  obtain⟨j,hj⟩:=Zk2 0 hmem
  obtain⟨hv0,_⟩:=hk.some hj
  have hzn:=fun w'=>ZmF z.name (by omega) w'
  rw[hj]at hi
  generalize Zig z.name=zb at *
  cases zb with
  | false =>
   rw[if_pos rfl]at hi
   subst hi
   repeat (first|(apply RL_pu;rfl;exact PuI)|(refine js ?_;(first|(refine Zae (fun w' hw=>hzn w') ?_)|(refine bx ?_;intro bk)))|refine walk1 ?_)
   exact rtC
  | true =>
   rw[if_neg (by decide)]at hi
   repeat (first|(apply RL_pu;rfl;(first|exact PuI|(apply Zow;rfl;rfl;exact h1;exact hv0)))|(refine js ?_;(first|(refine Zae (fun w' hw=>hzn w') ?_)|(refine bx ?_;intro bk)))|refine walk1 ?_)
   refine Zah rfl (fun h2=>?_) (fun h2=>?_)
   ·simp only[Bool.not_eq_true',decide_eq_false_iff_not]at h2
    rw[if_pos (fun e=>h2 (by simp only[Option.some.injEq]at e;omega))]at hi
    subst hi
    repeat (first|(refine js ?_;(refine bx ?_;intro bk))|refine walk ?_)
    exact rtC
   ·simp only[Bool.not_eq_false',decide_eq_true_eq]at h2
    rw[if_neg (fun e=>e (by congr 1;omega))]at hi
    repeat (first|(refine js ?_;(refine bx ?_;intro bk))|refine walk ?_)
    exact⟨k+1,OA,⟨OA,hi⟩,SFA,SOA⟩
 ·simp only[decide_eq_false_iff_not,Int.ofNat_lt]at hc
  rw[List.drop_eq_nil_of_le (by omega),Zbg]at hi
  subst hi
  repeat (first|(refine js ?_;(refine bx ?_;intro bk))|refine walk ?_)
  exact rtC
theorem IxM.any {m:List (ByteArray × Value)}{f:ByteArray->Option Nat}(h:IxM m f)(x:ByteArray):∃ n:Int,(mget m x).getD (.int .i64 0) = .int .i64 n/\(mget m x).isSome=(f x).isSome:=by
 rw[h x]
 cases f x with
 | none=>exact⟨0,rfl,rfl⟩
 | some i=>exact⟨i,rfl,rfl⟩
theorem Ze2 (s:Zac):∀ (l:List ZaO) (i:Nat) (p:Zas) (e:Int),Zbg s l i=some (p,e)->e≠0
 | [],_,_,_,h=>by cases h
 | z::l,i,p,e,h=>by
  simp only[Zbg]at h
  split at h
  ·simp only[Option.some.injEq,Prod.mk.injEq]at h;omega
  ·split at h
   ·simp only[Option.some.injEq,Prod.mk.injEq]at h;omega
   ·exact Ze2 s l _ p e h
theorem ZdV {G G':Prop}(k:G')(h:Hold G'->G:=by intro k9;(first|refine walk ?_|(refine jn ?_;(try intro F);(first|(refine stA ?_)|(apply Zag;exact PuA));refine fin ?_));exact k9.out):G:=h ⟨k⟩
theorem Zw6 {G:Prop}(h:G:=by(apply ZaH;rfl;rfl;exact hne')):G:=h
theorem Zw5 {G:Prop}(h:G:=by(first|exact PuI|(apply Zcl;rfl;rfl;(focus repeat' constructor);exact hv1;exact hc1)|(apply Zcl;rfl;rfl;(focus repeat' constructor);exact hv2;exact hc2)|(apply Zcl;rfl;rfl;(focus repeat' constructor);exact hv3;exact hc3)|(apply ZhQ;rfl;rfl;(focus repeat' constructor);exact hv4))):G:=h
theorem ZoN {G G':Prop}(k:G')(h:Hold G'->G:=by intro k9;(first|(apply RL_pu;rfl;exact Zw5)|(apply RD_Q;rfl;rfl;decide +kernel;rfl;rfl;exact QyLnkB2)|refine walk1 ?_|(refine jg ?_;(try intro F);(first|(refine Zae (fun w' hw=>hzn w') ?_)|(refine stA ?_));first|refine⟨_,EndsA,QFLnkB2,?_⟩|refine fin ?_)|(refine jn ?_;(try intro F);(first|(refine stA ?_)|(apply Zag;first|exact Zw5|exact PuA));first|refine⟨_,EndsA,QFLnkB2,?_⟩|refine fin ?_));exact k9.out):G:=h ⟨k⟩
theorem ZsS (Ar Az Al As:Option Addr)(cr cz cl cs:Nat)(a:Zac)(w:World)(hA:Zan w Ar Az Al As cr cz cl cs a)(hS:ZhN a) :
  Does Tryz.prog 94 [srcV Ar Az Al As cr cz cl cs a] w (fun v O=>v=ptV (Zda a)/\O=[]):=by
 have hnz:=hS.nz
 have hnl:=hS.nl
 have hnm:=fun bm mk w' (h0:Zan w' Ar Az Al As cr cz cl cs a)=>ZsL Ar Az Al As cr cz cl cs a bm mk w' h0 hS
 refine Zaa Tryz.func94 rfl rfl rfl rfl ?_
 repeat (first|refine ZAy ?_|(refine jn ?_;(try intro F);(first|(refine bx ?_;intro bk)|(refine stA ?_)|(apply Zag;exact PuA));refine fin ?_)|(apply RD_W;rfl;intro bk))
 rename_i b1
 obtain⟨b2,hb2⟩:∃ b2,bk=b2:=⟨_,rfl⟩
 rw[hb2]
 clear hb2 bk
 repeat (first|refine walk ?_|(refine jg ?_;(try intro F);(first|(apply Zad (h:=fun w' hw _=>Zgq Ar Az Al As cr cz cl cs a w' (hA.up hw) hnz);rfl;rintro v O' ⟨bm,mk,rfl,rfl,hk,hkd,hkl⟩)|(apply Zad (h:=fun w' hw _=>Zey Ar Az Al As cr cz cl cs a w' (hA.up hw) hnl);rfl;rintro v O' ⟨bl,ml,rfl,rfl,hl,hld,hll⟩)|(refine bx ?_;intro bk)|(refine stA ?_));refine fin ?_)|(refine jn ?_;(try intro F);(first|(refine bx ?_;intro bk)|(refine stA ?_)|(apply Zag;exact PuA));refine fin ?_)|(apply RD_W;rfl;intro bk))
 have hnm2:=fun w' hw hO=>hnm bm mk w' (Zan.up hA hw) hO hk
 unfold Zda
 cases hzf:Zbg a a.zones 0 with
 | some pe =>
  obtain⟨pl,e⟩:=pe
  rw[hzf]at hnm2
  have hne:=Ze2 a a.zones 0 pl e hzf
  have hne':(!decide (e=0))=true:=by rw[decide_eq_false hne];rfl
  repeat (first|(apply RL_pu;rfl;exact Zw6)|(apply RD_Q;rfl;rfl;decide +kernel;rfl;rfl;exact QyLnkB1)|refine walk1 ?_|(refine jg ?_;(try intro F);(first|(refine ZaX (fun w' hw hO=>hnm2 w' hw (hO.of (A := .mp bm mk) (by repeat' constructor))) ?_)|(refine bx ?_;intro bk)|(refine stA ?_));first|refine⟨_,EndsA,QFLnkB1,?_⟩|refine fin ?_)|(refine jn ?_;(try intro F);(first|(refine bx ?_;intro bk)|(refine stA ?_)|(apply Zag;first|exact Zw6|exact PuA));first|refine⟨_,EndsA,QFLnkB1,?_⟩|refine fin ?_)|(apply RD_W;rfl;intro bk))
  exact rtC
 | none =>
 rw[hzf]at hnm2
 rw[Option.none_or]
 obtain⟨res,hres⟩:∃ res,(ZbA a a.links 0).or (Zbz a a.links 0)=res:=⟨_,rfl⟩
 rw[hres]
 repeat (first|refine walk ?_|(refine jg ?_;(try intro F);(first|(refine ZaX (fun w' hw hO=>hnm2 w' hw (hO.of (A := .mp bm mk) (by repeat' constructor))) ?_)|(refine bx ?_;intro bk)|(refine stA ?_));refine fin ?_)|(refine jn ?_;(try intro F);(first|(refine bx ?_;intro bk)|(refine stA ?_)|(apply Zag;exact PuA));refine fin ?_)|(apply RD_W;rfl;intro bk))
 refine Zaq [(1,.pointer (some ⟨b1,0,none⟩)),(2,.pointer (some ⟨b2,0,none⟩)),(4,.map (some bm)),(5,.map (some bl)),(36,.slice Al a.links.length cl),(37,.int .i64 a.links.length)] [.mp bl ml,.mp bm mk,.blk b2 [.int .i64 0,.int .i64 0,.int .i64 0] 36,.blk b1 [.slice Ar a.rules.length cr,.slice Az a.zones.length cz,.slice Al a.links.length cl,.slice As a.shifts.length cs] 32]
  (fun k:Nat=>[(38,.int .i64 k)]) (fun _=>[]) (fun k=>k<=a.links.length/\(ZbA a (a.links.drop k) k).or (Zbz a a.links 0)=res) (fun k=>a.links.length - k) 0 SFA SOA ⟨Nat.zero_le _,hres⟩ ?_
 rintro k ⟨hkl',hi⟩
 repeat (first|refine ZdV ?_|(refine jn ?_;(try intro F);(refine bx ?_;intro bk);refine fin ?_)|(apply RD_W;rfl;intro bk))
 refine Zah rfl (fun hc=>?_) (fun hc=>?_)
 ·simp only[decide_eq_true_eq,Int.ofNat_lt]at hc
  obtain⟨hna,hca⟩:=hA.l.rd k _ (List.getElem?_eq_getElem hc)
  have hmem:=List.getElem_mem hc
  rw[Zao hc,ZbA]at hi
  generalize a.links[k]=lk at *
  have hsz:=(hS.ls lk hmem).2
  obtain⟨n1,hv1,hc1⟩:=hk.any lk.name
  obtain⟨n2,hv2,hc2⟩:=hk.any lk.target
  obtain⟨n3,hv3,hc3⟩:=hl.any lk.target
  obtain⟨j,hj⟩:=Zk3 0 hmem
  have hv4:=(hl.some hj).1
  rw[hj]at hi
  generalize (Zbd lk.name a.zones 0).isSome=c1 at *
  rw[<- Option.not_isSome,<- Option.not_isSome]at hi
  generalize (Zbd lk.target a.zones 0).isSome=c2 at *
  generalize (ZbV lk.target a.links 0).isSome=c3 at *
  have hzn:=fun w'=>ZmF lk.name (by omega) w'
  generalize Zig lk.name=zb at *
  cases zb with
  | false =>
   rw[if_pos rfl]at hi
   subst hi
   repeat (first|refine ZoN ?_|(refine jg ?_;(try intro F);(refine bx ?_;intro bk);first|refine⟨_,EndsA,QFLnkB2,?_⟩|refine fin ?_)|(refine jn ?_;(try intro F);(refine bx ?_;intro bk);first|refine⟨_,EndsA,QFLnkB2,?_⟩|refine fin ?_)|(apply RD_W;rfl;intro bk))
   exact rtC
  | true =>
   rw[if_neg (by decide)]at hi
   cases c1 with
   | true =>
    rw[if_pos (.inl rfl)]at hi
    subst hi
    repeat (first|refine ZoN ?_|(refine jg ?_;(try intro F);(refine bx ?_;intro bk);first|refine⟨_,EndsA,QFLnkB2,?_⟩|refine fin ?_)|(refine jn ?_;(try intro F);(refine bx ?_;intro bk);first|refine⟨_,EndsA,QFLnkB2,?_⟩|refine fin ?_)|(apply RD_W;rfl;intro bk))
    exact rtC
   | false =>
    repeat (first|refine ZoN ?_|(refine jg ?_;(try intro F);(refine bx ?_;intro bk);first|refine⟨_,EndsA,QFLnkB2,?_⟩|refine fin ?_)|(refine jn ?_;(try intro F);(refine bx ?_;intro bk);first|refine⟨_,EndsA,QFLnkB2,?_⟩|refine fin ?_)|(apply RD_W;rfl;intro bk))
    refine Zah rfl (fun h2=>?_) (fun h2=>?_)
    ·simp only[Bool.not_eq_true',decide_eq_false_iff_not]at h2
     rw[if_pos (.inr fun e=>h2 (by simp only[Option.some.injEq]at e;omega))]at hi
     subst hi
     repeat (first|refine ZdV ?_|(refine jn ?_;(try intro F);(refine bx ?_;intro bk);refine fin ?_)|(apply RD_W;rfl;intro bk))
     exact rtC
    ·simp only[Bool.not_eq_false',decide_eq_true_eq]at h2
     rw[if_neg (by rintro(e|e);cases e;exact e (by congr 1;omega))]at hi
     by_cases hcc:c2=false/\c3=false
     ·obtain⟨rfl,rfl⟩:=hcc
      rw[if_pos ⟨rfl,rfl⟩]at hi
      subst hi
      repeat (first|refine ZdV ?_|(refine jn ?_;(try intro F);(refine bx ?_;intro bk);refine fin ?_)|(apply RD_W;rfl;intro bk))
      exact rtC
     ·rw[if_neg (by simpa using hcc)]at hi
      cases c2 with
      | true =>
       repeat (first|refine ZdV ?_|(refine jn ?_;(try intro F);(refine bx ?_;intro bk);refine fin ?_)|(apply RD_W;rfl;intro bk))
       exact⟨k+1,OA,⟨OA,hi⟩,SFA,SOA⟩
      | false =>
       cases c3 with
       | false=>exact absurd ⟨rfl,rfl⟩ hcc
       | true =>
        repeat (first|refine ZdV ?_|(refine jn ?_;(try intro F);(refine bx ?_;intro bk);refine fin ?_)|(apply RD_W;rfl;intro bk))
        exact⟨k+1,OA,⟨OA,hi⟩,SFA,SOA⟩
 ·simp only[decide_eq_false_iff_not,Int.ofNat_lt]at hc
  rw[List.drop_eq_nil_of_le (by omega),ZbA,Option.none_or]at hi
  repeat (first|refine ZdV ?_|(refine jn ?_;(try intro F);(refine bx ?_;intro bk);refine fin ?_)|(apply RD_W;rfl;intro bk))
  clear hc hkl' hres
  refine Zaq [(1,.pointer (some ⟨b1,0,none⟩)),(2,.pointer (some ⟨b2,0,none⟩)),(4,.map (some bm)),(5,.map (some bl)),(93,.slice Al a.links.length cl),(94,.int .i64 a.links.length)] [.mp bl ml,.mp bm mk,.blk b2 [.int .i64 0,.int .i64 0,.int .i64 0] 36,.blk b1 [.slice Ar a.rules.length cr,.slice Az a.zones.length cz,.slice Al a.links.length cl,.slice As a.shifts.length cs] 32]
   (fun k:Nat=>[(95,.int .i64 k)]) (fun _=>[]) (fun k=>k<=a.links.length/\Zbz a (a.links.drop k) k=res) (fun k=>a.links.length - k) 0 SFA SOA ⟨Nat.zero_le _,hi⟩ ?_
  clear hi
  rintro k ⟨hkl',hi⟩
  repeat (first|refine ZdV ?_|(refine jn ?_;(try intro F);(refine bx ?_;intro bk);refine fin ?_)|(apply RD_W;rfl;intro bk))
  refine Zah rfl (fun hc=>?_) (fun hc=>?_)
  ·simp only[decide_eq_true_eq,Int.ofNat_lt]at hc
   obtain⟨hna,hca⟩:=hA.l.rd k _ (List.getElem?_eq_getElem hc)
   rw[Zao hc,Zbz]at hi
   generalize a.links[k]=lk at *
   have hfo:=fun w' h0 h1 h2=>Zjk Ar Az Al As cr cz cl cs a bm bl mk ml lk.name w' h0 h1 h2 hk hl hld hll
   generalize ZaW a (a.links.length+1) [] lk.name=fo at *
   obtain⟨fi,fe⟩:=fo
   dsimp only at hfo hi
   repeat (first|(apply RL_pu;rfl;exact PuI)|(apply RD_Q;rfl;rfl;decide +kernel;rfl;rfl;exact QyI)|refine walk1 ?_|(refine jg ?_;(try intro F);(first|(refine ZaX (fun w' hw hO=>hfo w' (hA.up hw) (hO.of (A := .mp bm mk) (by repeat' constructor)) (hO.of (A := .mp bl ml) (by repeat' constructor))) ?_)|(refine bx ?_;intro bk)|(refine stA ?_));first|refine⟨_,EndsA,QFI,?_⟩|refine fin ?_)|(refine jn ?_;(try intro F);(first|(refine bx ?_;intro bk)|(refine stA ?_)|(apply Zag;first|exact PuI|exact PuA));first|refine⟨_,EndsA,QFI,?_⟩|refine fin ?_)|(apply RD_W;rfl;intro bk))
   refine Zah rfl (fun h2=>?_) (fun h2=>?_)
   ·simp only[decide_eq_true_eq]at h2
    subst h2
    rw[if_pos rfl]at hi
    subst hi
    repeat (first|refine ZdV ?_|(refine jn ?_;(try intro F);(refine bx ?_;intro bk);refine fin ?_)|(apply RD_W;rfl;intro bk))
    exact rtC
   ·simp only[decide_eq_false_iff_not]at h2
    rw[if_neg h2]at hi
    repeat (first|refine ZdV ?_|(refine jn ?_;(try intro F);(refine bx ?_;intro bk);refine fin ?_)|(apply RD_W;rfl;intro bk))
    exact⟨k+1,OA,⟨OA,hi⟩,SFA,SOA⟩
  ·simp only[decide_eq_false_iff_not,Int.ofNat_lt]at hc
   rw[List.drop_eq_nil_of_le (by omega),Zbz]at hi
   subst hi
   repeat (first|refine ZdV ?_|(refine jn ?_;(try intro F);(refine bx ?_;intro bk);refine fin ?_)|(apply RD_W;rfl;intro bk))
   exact rtC
end Go.Proofs.YtbjomhdhkpgbaaaGreatDoor
