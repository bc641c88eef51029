/- Parts of the proof. -/
import Derived.Test.YtbjomhdhkpgbaaaGreatDoorV19
import Derived.Test.YtbjomhdhkpgbaaaGreatDoorV13
import Derived.Test.YtbjomhdhkpgbaaaGreatDoorV20
import Derived.Test.YtbjomhdhkpgbaaaGreatDoorV08
import Derived.Test.YtbjomhdhkpgbaaaGreatDoorV06
set_option maxHeartbeats 4000000
set_option linter.unusedVariables false
set_option linter.unusedSimpArgs false
set_option maxHeartbeats 8000000
namespace Go.Proofs.YtbjomhdhkpgbaaaGreatDoor
open Go Go.RowKit Go.Wk
attribute [local irreducible] W RL Does Zar Zal retQ Calls Pu Stp RD Qy Ay Zak WI RLI
set_option maxRecDepth 20000 in
theorem ZuA (b:Nat)(wr:World)(O:List It)(w:World)(hB:Bel wr.heap.size wr w)(hH:Zau wr.heap.size O w):CallsD Tryz.prog 61 #[.pointer (some ⟨b,0,none⟩)] .returning w (fun e u' w'=>e = .returned (.tuple #[])/\u' = .returning/\Bel wr.heap.size wr w'/\Zau wr.heap.size O w'):=by
 refine callsD_of_wpS Tryz.func61 rfl fun c₀ cs hu=>?_
 -- Zaa Tryz.func61
 refine wpS_seq (wpS_region ?_)
 show wpOpsS _ _ _ [0,1] _ _ _
 refine Zsn rfl (ZlK hu) ?_
 have hs0:St 17 wr [] O { tmps := #[.pointer (some ⟨b,0,none⟩)]++Array.replicate (Tryz.f61.ntmps - 1) undef,defers:=[] } w:=⟨⟨rfl,by rfl,fun t v hv=>(by cases hv)⟩,hB,hH⟩
 have hs1:=St.mk (hs0.sim.put (d:=4) rfl .nilIface) hB hH
 refine Zsm rfl hs1 (v := .nilIface) (by apply Pu_assign;rfl) ?_
 have hs2:=St.mk (hs1.sim.put (d:=1) rfl .nilIface) hB hH
 refine Zso ?_
 refine wpS_of_wp ?_
 have hW:∀ y Q,(∀ e a' w',lift 17 wr (fun e fr' O'=>e = .normal/\SubO O O') e a' w'->Q e a' w')->W Tryz.prog 17 wr y (fun e fr' O'=>e = .normal/\SubO O O') [(1,.nilIface),(4,.nilIface)] O->y.wp Tryz.prog Q _ w:=fun y Q hq h=>wp_mono (W_at h hs2) hq
 refine hW _ _ ?_ ?_
 ·rintro e a' w' ⟨fr',O',hs',rfl,hO⟩
  have hr:(results Tryz.f61 a'.tmps).run Tryz.prog w' = .ok (.tuple #[]) w':=by
   have hres:Tryz.f61.results = #[]:=rfl
   unfold results
   rw[hres]
   simp
  exact⟨hs'.sim.defers,.returning,by rw[<- hu],.tuple #[],hr,rfl,rfl,hs'.old,hs'.own.sub hO⟩
 ·repeat (first|(apply RL_pu;rfl;(apply ZhO;exact⟨_,rfl⟩;rfl;exact .inl ⟨rfl,rfl⟩))|(refine js ?_;(refine bx ?_;intro bk))|refine walk1 ?_)
  exact⟨rfl,.refl _⟩
instance zfnT:ZeroT Tryz.prog 134 [.nilFunc]:=⟨by kernel_rfl⟩
theorem ZmU (form:Int)(h:form=1\/form=2\/form=3)(w:World):Does Tryz.prog 62 [.int .i64 form] w (fun v O=>∃ b,v = .slice (some ⟨b,0,none⟩) (form+1).toNat 4/\O=[.blk b [.func (.func 102) #[] #[],.func (.func 103) #[] #[],.func (.func 104) #[] #[],.func (.func 105) #[] #[]] 134]):=by
 have h1:form+1<=4/\0<=form:=by omega
 refine Zaa Tryz.func62 rfl rfl rfl rfl ?_
 repeat (first|(refine js ?_;(refine bx ?_;intro bk))|refine walk ?_)
 exact ret_1 _ [_] (.tmp rfl) SOA ⟨bk,rfl,rfl⟩
def stD (s:Zac):Nat->Zac
 | 0=>s
 | 1=>ZaC s
 | 2=>ZaL (ZaC s)
 | 3=>Zb4 (ZaL (ZaC s))
 | _=>ZsE (Zb4 (ZaL (ZaC s)))
theorem ZmP:∀ (l:List ByteArray){s:Zac},Fits s->Fits (unGo l s)
 | [],_,h=>h
 | _::l,_,h=>ZmP l (h.byS _ _)
theorem ZbD {s:Zac}(h:Fits s):Fits (ZaC s):=by
 obtain⟨h1,h2,h3,h4,h5⟩:=ZmP s.shifts h
 exact⟨h1,h2,h3,Nat.zero_le _,h5⟩
structure ToOk (form:Int)(s:Zac):Prop where
 fits:Fits s
 un:unB s.shifts s=true
 m1:srcM (ZaC s)=true
 con:conB (ZaC s)=true
 m2:2<=form->srcM (ZaL (ZaC s))=true
 ex:2<=form->expB (ZaL (ZaC s))=true
 re:3<=form->reB (ZaS (Zb4 (ZaL (ZaC s))).rules []) (Zb4 (ZaL (ZaC s)))=true
theorem ZAG {form:Int}{s:Zac}(hf:form=1\/form=2\/form=3)(h:Fits s)(ht:toB form s=true):ToOk form s:=by
 unfold toB at ht
 simp only[Bool.and_eq_true,Bool.or_eq_true,decide_eq_true_eq]at ht
 obtain⟨a1,a2,a3,a4⟩:=ht
 refine⟨h,a1,a2,a3,fun h2=>?_,fun h2=>?_,fun h3=>?_⟩
 ·exact(a4.resolve_left (by omega)).1
 ·exact(a4.resolve_left (by omega)).2.1
 ·exact((a4.resolve_left (by omega)).2.2.resolve_left (by omega)).2
theorem Zp5 {P:Program}{f:FuncId}{args:Array Value}{u:FrameMode}{w:World}{R R':Ending->FrameMode->World->Prop}(h:CallsD P f args u w R)(hr:∀ e u' w',R e u' w'->R' e u' w'):CallsD P f args u w R':=fun c cs hc=>by
 obtain⟨e,u',w',fr,h1,h2⟩:=h c cs hc
 exact⟨e,u',w',fr,hr _ _ _ h1,h2⟩
theorem Zzm {s:Zac}(h:Fits s):(Zb4 (ZaL (ZaC s))).shifts.length+(ZaS (Zb4 (ZaL (ZaC s))).rules []).length<=1000000:=by
 have h1:=(ZbD h).r
 have h2:=ZfG (ZaC s).rules []
 show 0+(ZaS (ZaC s).rules []).length<=1000000
 simp only[List.length_nil]at h2
 omega
def waR (bD:Nat)(t:Zac)(R:List It)(wr:World):Ending->World->Prop:=fun e w'=>∃ v O',e = .returned v/\Bel wr.heap.size wr w'/\Zau wr.heap.size O' w'/\v = .int .i64 0/\DrAt wr bD t R O'
theorem Zsa {G:Prop}(h:G:=by(apply Pu_indexAddr;rfl;rfl;omega;omega;exact Option.some_ne_none _)):G:=h
theorem ZiE (bD:Nat)(form:Int)(Ar Az Al As:Option Addr)(cr cz cl cs:Nat)(S:Nat->Prop)(s:Zac)(R:List It)(wr:World)(hL:LibW wr)(hform:form=1\/form=2\/form=3)(ht:ToOk form s) :
  Zak Tryz.prog 29 [.pointer (some ⟨bD,0,none⟩),.int .i64 form] wr (drB bD Ar Az Al As cr cz cl cs s :: .fact S (drF wr Ar Az Al As cr cz cl cs s)::R) (fun v O=>v = .int .i64 0/\DrAt wr bD (stD s (form+1).toNat) R O):=by
 unfold Zak
 intro w0 hB0 hH0
 refine ZmD Tryz.func29 rfl rfl rfl hB0 hH0 ?_
 -- Zaa Tryz.func29
 apply ZqK
 repeat (first|(refine js ?_;(refine bx ?_;intro bk))|refine walk ?_)
 apply Zo1
 generalize bk=b4
 refine Zxw rfl (by apply Pu_makeFunc;rfl;rfl) rfl ?_
 intro a1 w1 hs1
 have key:∀ c' Q' Q3,WI Fence.wide [{ target := .fn (.func 61) [.pointer (some ⟨b4,0,none⟩)].toArray,args := #[] }] Tryz.prog 19 wr c' Q' _ _->(∀ e a' w',ZpD [{ target := .fn (.func 61) [.pointer (some ⟨b4,0,none⟩)].toArray,args := #[] }] 19 wr Q' e a' w'->Q3 e a' w')->c'.wp Tryz.prog Q3 (actD [{ target := .fn (.func 61) [.pointer (some ⟨b4,0,none⟩)].toArray,args := #[] }] a1) w1:=fun c' Q' Q3 h hq=>(wpIn_wide (n:=0)).1 (wpIn_mono (h.at hs1) hq)
 refine key _ (fun e fr O=>(e = .normal\/e = .ret)/\∃ Ar' Az' Al' As' cr' cz' cl' cs' S',Sub [(4,.pointer (some ⟨b4,0,none⟩))] fr/\SubO (.blk b4 [.int .i64 0] 37::drB bD Ar' Az' Al' As' cr' cz' cl' cs' (stD s (form+1).toNat) :: .fact S' (drF wr Ar' Az' Al' As' cr' cz' cl' cs' (stD s (form+1).toNat))::R) O) _ ?_ ?_
 ·refine ZbP (ZbP (Zbf (.inl rfl) (by repeat (first|exact .nil|(refine .plain rfl ?_)|apply Calms.call|apply Calms.append|apply Calms.len)) ?_))
  repeat (first|(refine js ?_;(first|(apply Zad (h:=fun w' _ _=>ZmU form hform w');rfl;rintro v O' ⟨bq,rfl,rfl⟩)|(refine bx ?_;intro bk)))|refine walk ?_)
  refine Zdk (ZBC (fun g:DrG=>[(11,.int .i64 g.k),(9,.slice (some ⟨bq,0,none⟩) (form+1).toNat 4),(10,.int .i64 (form+1).toNat),(0,.pointer (some ⟨bD,0,none⟩)),(4,.pointer (some ⟨b4,0,none⟩))]) (fun g=>drB bD g.Ar g.Az g.Al g.As g.cr g.cz g.cl g.cs g.s :: .fact g.S (drF wr g.Ar g.Az g.Al g.As g.cr g.cz g.cl g.cs g.s) :: .blk bq [.func (.func 102) #[] #[],.func (.func 103) #[] #[],.func (.func 104) #[] #[],.func (.func 105) #[] #[]] 134 :: .blk b4 [.int .i64 0] 37::R) (fun g=>g.k<=(form+1).toNat/\g.s=stD s g.k) (fun g=>(form+1).toNat - g.k) ⟨0,Ar,Az,Al,As,cr,cz,cl,cs,s,S⟩ SFA STA ⟨Nat.zero_le _,rfl⟩ ?_)
  rintro⟨k,A1,A2,A3,A4,c1,c2,c3,c4,t,S1⟩ ⟨hk,ht2⟩
  dsimp only at hk ht2 ⊢
  subst ht2
  refine ZbP (Zbf (.inl rfl) (by repeat (first|exact .nil|(refine .plain rfl ?_)|apply Calms.call|apply Calms.append|apply Calms.len)) ?_)
  repeat (first|(refine js ?_;(refine bx ?_;intro bk))|refine walk ?_)
  refine ZbP (ZbW rfl (fun hc=>?_) (fun hc=>?_))
  ·have hkl:k<(form+1).toNat:=by
    have:=of_decide_eq_true hc
    omega
   refine Zfw ?_
   apply thenQ_n
   have hk4:k=0\/k=1\/k=2\/k=3:=by omega
   rcases hk4 with rfl|rfl|rfl|rfl
   ·refine ZbP (Zdk (ZbP (Zbf (.inl rfl) (by repeat (first|exact .nil|(refine .plain rfl ?_)|apply Calms.call|apply Calms.append|apply Calms.len)) ?_)))
    repeat (first|(apply RL_pu;rfl;exact Zsa)|(refine js ?_;(refine bx ?_;intro bk))|refine walk1 ?_)
    refine Zbb ?_
    apply Za9 (.inl rfl);rfl;(intro c h;cases h);(apply Pu_move;rfl)
    apply Za9 (.inl rfl);rfl;(intro c h;cases h);(apply Pu_move;rfl)
    apply ZbH (.inl rfl);(intro d hd;cases hd;rfl);(intro c h;cases h);(intro a w hs;exact Zcj (us:=[]) (cs:=[]) (xs:=[_]) hs rfl)
    refine ZbX (us:=[]) (cs:=[]) (xs:=[_]) rfl rfl (h:=ZmO bD A1 A2 A3 A4 c1 c2 c3 c4 S1 s _ wr hL ht.fits ht.un) (.cons (by repeat' constructor) (.cons (by repeat' constructor) (.refl _))) ?_
    rintro v O' ⟨rfl,B1,B2,B3,B4,d1,d2,d3,d4,S2,rfl⟩
    refine Za0 ?_
    refine blockQ_n (thenQ_n ?_)
    refine Zbf (.inl rfl) (by repeat (first|exact .nil|(refine .plain rfl ?_)|apply Calms.call|apply Calms.append|apply Calms.len)) ?_
    repeat (first|(refine js ?_;(refine bx ?_;intro bk))|refine walk ?_)
    exact⟨⟨0+1,B1,B2,B3,B4,d1,d2,d3,d4,_,S2⟩,OA,⟨hkl,rfl⟩,SFA,STA⟩
   ·refine ZbP (Zdk (ZbP (Zbf (.inl rfl) (by repeat (first|exact .nil|(refine .plain rfl ?_)|apply Calms.call|apply Calms.append|apply Calms.len)) ?_)))
    repeat (first|(apply RL_pu;rfl;exact Zsa)|(refine js ?_;(refine bx ?_;intro bk))|refine walk1 ?_)
    refine Zbb ?_
    apply Za9 (.inl rfl);rfl;(intro c h;cases h);(apply Pu_move;rfl)
    apply Za9 (.inl rfl);rfl;(intro c h;cases h);(apply Pu_move;rfl)
    apply ZbH (.inl rfl);(intro d hd;cases hd;rfl);(intro c h;cases h);(intro a w hs;exact Zcj (us:=[]) (cs:=[]) (xs:=[_]) hs rfl)
    refine ZbX (us:=[]) (cs:=[]) (xs:=[_]) rfl rfl (h:=Zl6 bD A1 A2 A3 A4 c1 c2 c3 c4 S1 (ZaC s) _ wr hL (ZbD ht.fits) ht.m1 ht.con) (.cons (by repeat' constructor) (.cons (by repeat' constructor) (.refl _))) ?_
    rintro v O' ⟨rfl,B1,B2,B3,B4,d1,d2,d3,d4,S2,rfl⟩
    refine Za0 ?_
    refine blockQ_n (thenQ_n ?_)
    refine Zbf (.inl rfl) (by repeat (first|exact .nil|(refine .plain rfl ?_)|apply Calms.call|apply Calms.append|apply Calms.len)) ?_
    repeat (first|(refine js ?_;(refine bx ?_;intro bk))|refine walk ?_)
    exact⟨⟨1+1,B1,B2,B3,B4,d1,d2,d3,d4,_,S2⟩,OA,⟨hkl,rfl⟩,SFA,STA⟩
   ·refine ZbP (Zdk (ZbP (Zbf (.inl rfl) (by repeat (first|exact .nil|(refine .plain rfl ?_)|apply Calms.call|apply Calms.append|apply Calms.len)) ?_)))
    repeat (first|(apply RL_pu;rfl;exact Zsa)|(refine js ?_;(refine bx ?_;intro bk))|refine walk1 ?_)
    refine Zbb ?_
    apply Za9 (.inl rfl);rfl;(intro c h;cases h);(apply Pu_move;rfl)
    apply Za9 (.inl rfl);rfl;(intro c h;cases h);(apply Pu_move;rfl)
    apply ZbH (.inl rfl);(intro d hd;cases hd;rfl);(intro c h;cases h);(intro a w hs;exact Zcj (us:=[]) (cs:=[]) (xs:=[_]) hs rfl)
    refine ZbX (us:=[]) (cs:=[]) (xs:=[_]) rfl rfl (h:=Zl0 bD A1 A2 A3 A4 c1 c2 c3 c4 S1 (ZaL (ZaC s)) _ wr ((ZbD ht.fits).erasS _) (ht.m2 (by omega)) (ht.ex (by omega))) (.cons (by repeat' constructor) (.cons (by repeat' constructor) (.refl _))) ?_
    rintro v O' ⟨rfl,B1,B2,B3,B4,d1,d2,d3,d4,S2,rfl⟩
    refine Za0 ?_
    refine blockQ_n (thenQ_n ?_)
    refine Zbf (.inl rfl) (by repeat (first|exact .nil|(refine .plain rfl ?_)|apply Calms.call|apply Calms.append|apply Calms.len)) ?_
    repeat (first|(refine js ?_;(refine bx ?_;intro bk))|refine walk ?_)
    exact⟨⟨2+1,B1,B2,B3,B4,d1,d2,d3,d4,_,S2⟩,OA,⟨hkl,rfl⟩,SFA,STA⟩
   ·refine ZbP (Zdk (ZbP (Zbf (.inl rfl) (by repeat (first|exact .nil|(refine .plain rfl ?_)|apply Calms.call|apply Calms.append|apply Calms.len)) ?_)))
    repeat (first|(apply RL_pu;rfl;exact Zsa)|(refine js ?_;(refine bx ?_;intro bk))|refine walk1 ?_)
    refine Zbb ?_
    apply Za9 (.inl rfl);rfl;(intro c h;cases h);(apply Pu_move;rfl)
    apply Za9 (.inl rfl);rfl;(intro c h;cases h);(apply Pu_move;rfl)
    apply ZbH (.inl rfl);(intro d hd;cases hd;rfl);(intro c h;cases h);(intro a w hs;exact Zcj (us:=[]) (cs:=[]) (xs:=[_]) hs rfl)
    refine ZbX (us:=[]) (cs:=[]) (xs:=[_]) rfl rfl (h:=Zm5 bD A1 A2 A3 A4 c1 c2 c3 c4 S1 (Zb4 (ZaL (ZaC s))) _ wr hL (((ZbD ht.fits).erasS _).erasS _) (Zzm ht.fits) (ht.re (by omega))) (.cons (by repeat' constructor) (.cons (by repeat' constructor) (.refl _))) ?_
    rintro v O' ⟨rfl,B1,B2,B3,B4,d1,d2,d3,d4,S2,rfl⟩
    refine Za0 ?_
    refine blockQ_n (thenQ_n ?_)
    refine Zbf (.inl rfl) (by repeat (first|exact .nil|(refine .plain rfl ?_)|apply Calms.call|apply Calms.append|apply Calms.len)) ?_
    repeat (first|(refine js ?_;(refine bx ?_;intro bk))|refine walk ?_)
    exact⟨⟨3+1,B1,B2,B3,B4,d1,d2,d3,d4,_,S2⟩,OA,⟨hkl,rfl⟩,SFA,STA⟩
  ·obtain rfl:k=(form+1).toNat:=by
    have:=of_decide_eq_false hc
    omega
   refine Zj3 ?_
   repeat (first|(refine js ?_;(refine bx ?_;intro bk))|refine walk ?_)
   refine ZbP (Zbf (.inl rfl) (by repeat (first|exact .nil|(refine .plain rfl ?_)|apply Calms.call|apply Calms.append|apply Calms.len)) ?_)
   repeat (first|(refine js ?_;(refine bx ?_;intro bk))|refine walk ?_)
   refine Zgd ?_
   exact⟨.inr rfl,A1,A2,A3,A4,c1,c2,c3,c4,S1,SFA,STA⟩
 ·rintro e a' w' ⟨hd,fr',O',hs',he,B1,B2,B3,B4,d1,d2,d3,d4,S2,hf,hO⟩
  have hs2:=hs'.sub hf hO
  have hl:Leaves Tryz.prog Tryz.f29 a'.tmps (waR bD (stD s (form+1).toNat) R wr) a'.defers .returning w':=by
   rw[hd]
   unfold Leaves
   refine⟨by simp,.func 61,[.pointer (some ⟨b4,0,none⟩)].toArray,61,#[.pointer (some ⟨b4,0,none⟩)],rfl,by simp[invoke,ZbE],?_⟩
   refine Zp5 (ZuA b4 wr _ w' hs2.old hs2.own) ?_
   rintro e u' w2 ⟨rfl,rfl,hB,hH⟩
   dsimp only
   have hs3:=St.mk hs2.sim hB hH
   unfold settle Leaves
   refine⟨.int .i64 0,?_,.int .i64 0,_,rfl,hB,hH.sub (.drop (.refl _)),rfl,B1,B2,B3,B4,d1,d2,d3,d4,S2,rfl⟩
   have hres:Tryz.f29.results=[ResultVar.cell 4 37].toArray:=rfl
   show(results Tryz.f29 (actD [] a').tmps).run Tryz.prog _=_
   unfold results
   rw[hres,List.mapM_toArray]
   simp only[Sem.run_bind,Sem.run_map]
   rw[ZbT (P:=Tryz.prog) hs3 _ (fun _=>rfl) (fun _ _=>rfl) [ResultVar.cell 4 37] [.int .i64 0] ⟨_,[],rfl,.cell1 rfl (by repeat' constructor),rfl⟩]
   simp only[Result.andThen_ok,Sem.run_pure]
   rfl
  rcases he with rfl|rfl
  ·exact hl
  ·exact hl
end Go.Proofs.YtbjomhdhkpgbaaaGreatDoor
set_option maxHeartbeats 8000000
namespace Go.Proofs.YtbjomhdhkpgbaaaGreatDoor
open Go Go.RowKit Go.Wk
attribute [local irreducible] W RL Does Zar Zal retQ Calls Pu Stp RD Qy Ay Zak
theorem ZjO (Ar Az Al As:Option Addr)(cr cz cl cs:Nat)(a:Zac)(w:World)(hA:Zan w Ar Az Al As cr cz cl cs a)(hn:Fits a) :
  Does Tryz.prog 30 [srcV Ar Az Al As cr cz cl cs a] w (Zd4 a):=by
 obtain⟨hnr,hnz,hnl,hns,hne⟩:=hn
 refine Zaa Tryz.func30 rfl rfl rfl rfl ?_
 refine Zdj 46 2 ?_
 unfold srcV
 repeat (first|refine walk ?_|(refine jg ?_;(try intro F);(first|(apply Zad (h:=fun w' hw _=>ZcF Ar cr a.rules w' (hA.r.up hw) hnr);rfl;rintro v O' ⟨A3,c3,rfl,rfl⟩)|(apply Zad (h:=fun w' hw _=>ZeI Al cl a.links w' (hA.l.up hw) hnl);rfl;rintro v O' ⟨A4,c4,rfl,rfl⟩)|(apply Zad (h:=fun w' hw _=>ZcE As cs a.shifts w' (hA.s.up hw) hns);rfl;rintro v O' ⟨A5,c5,rfl,rfl⟩)|(refine bx ?_;intro bk)|(refine stA ?_));refine fin ?_)|(refine jn ?_;(try intro F);(first|(refine bx ?_;intro bk)|(refine stA ?_)|(apply Zag;exact PuA));refine fin ?_)|(apply RD_W;rfl;intro bk))
 generalize bk=b3
 refine Zha (fun g:EoG=>[(19,.int .i64 g.k),(2,_),(3,_),(17,_),(18,_)]) (fun g => .row (.slice g.Az g.m g.cz) 46 2 g.m g.xs :: .blk b3 [.slice A3 a.rules.length c3,.slice g.Az g.m g.cz,.slice A4 a.links.length c4,.slice A5 a.shifts.length c5] 32::rowS A5 c5 a.shifts::rowL A4 c4 a.links::rowR A3 c3 a.rules :: .blk _ _ _ :: .blk _ _ _::g.Zr.map ZaG)
  (fun h=>h.k<=a.zones.length/\h.m=h.Zr.length/\h.xs=h.Zr.reverse.flatMap ZE.enc/\h.Zr.reverse.map ZE.z=a.zones.take h.k)
  (fun h=>a.zones.length - h.k) ⟨0,none,0,0,[],[]⟩ SFA STA ⟨by simp,rfl,rfl,by simp⟩ ?_
 rintro⟨k,Az',cz',m,xs,Zr⟩ ⟨hk,hm,hx,hz⟩
 dsimp only at hk hm hx hz ⊢
 generalize hT:Zr.map ZaG=T
 repeat (first|refine walk ?_|(refine jn ?_;(try intro F);(first|(refine bx ?_;intro bk)|(refine stA ?_)|(apply Zag;exact PuA));refine fin ?_)|(apply RD_W;rfl;intro bk))
 refine Zah rfl (fun hc=>?_) (fun hc=>?_)
 ·simp only[decide_eq_true_eq,Int.ofNat_lt]at hc
  obtain⟨hna,cs1,⟨Ae,ce,hE,rfl⟩,hca⟩:=hA.z k _ (List.getElem?_eq_getElem hc)
  have ht:=List.take_append_getElem hc
  have hl:=hne _ (List.getElem_mem hc)
  have hzl:Zr.length=k:=by rw[<- List.length_reverse,<- List.length_map (f:=ZE.z),hz,List.length_take];omega
  generalize a.zones[k]=z at *
  obtain⟨nm,es⟩:=z
  dsimp only at hE hl hca
  repeat (first|(apply RL_pu;rfl;exact PuI)|(apply RD_Q;rfl;rfl;decide +kernel;rfl;rfl;exact QyI)|refine walk1 ?_|(refine jg ?_;(try intro F);(first|(apply Zad (h:=fun w' hw _=>ZcG Ae ce es w' (hE.up hw) hl);rfl;rintro v O' ⟨A2,c2,rfl,rfl⟩)|(apply Zay;rfl;rfl;(intro A' c';(focus repeat' constructor));(intro w' _ hO;exact Zbv (hO.of (by repeat' constructor)));rfl;rfl;(simp only[maxLen];omega);omega;intro A' c' hc1 hc2 hc3)|(refine bx ?_;intro bk)|(refine stA ?_));first|refine⟨_,EndsA,QFI,?_⟩|refine fin ?_)|(refine jn ?_;(try intro F);(first|(apply Zay;rfl;rfl;(intro A' c';(focus repeat' constructor));(intro w' _ hO;exact Zbv (hO.of (by repeat' constructor)));rfl;rfl;(simp only[maxLen];omega);omega;intro A' c' hc1 hc2 hc3)|(refine bx ?_;intro bk)|(refine stA ?_)|(apply Zag;first|exact PuI|exact PuA));first|refine⟨_,EndsA,QFI,?_⟩|refine fin ?_)|(apply RD_W;rfl;intro bk))
  subst hT
  exact⟨⟨k+1,A',c',m+1,xs++ZE.enc ⟨⟨nm,es⟩,A2,c2⟩,⟨⟨nm,es⟩,A2,c2⟩::Zr⟩,OA,⟨OA,by simp[hm],by simp[hx],by rw[List.reverse_cons,List.map_append,hz];exact ht⟩,SFA,STA⟩
 simp only[decide_eq_false_iff_not,Int.ofNat_lt]at hc
 rw[List.take_of_length_le (by omega)]at hz
 subst hT
 refine ZrU _ (SubO.permT (l:=[_,_,_,_,_,_,_]) (.refl _) ((List.reverse_perm Zr).symm.map ZaG)) ?_
 rw[<- List.length_reverse]at hm
 generalize Zr.reverse=Zs at *
 repeat (first|refine walk ?_|(refine jn ?_;(try intro F);(first|(refine bx ?_;intro bk)|(refine stA ?_)|(apply Zag;exact PuA));refine fin ?_)|(apply RD_W;rfl;intro bk))
 subst hm hx
 have hl:Zs.length=a.zones.length:=by rw[<- hz,List.length_map]
 exact ret_1 _ (rowR A3 c3 a.rules::rowZ Az' cz' Zs::rowL A4 c4 a.links::rowS A5 c5 a.shifts::Zs.map ZaG) (.cellB rfl (by repeat' constructor) rfl rfl) STA ⟨A3,c3,Az',cz',A4,c4,A5,c5,Zs,by rw[srcV,<- hl];rfl,hz,rfl⟩
theorem ZxW (l:List Zab):(Zes l).1<=l.length:=by
 unfold Zes
 split
 ·rename_i x h
  obtain⟨j,e⟩:=x
  have:=Zjv _ l 0 j e h
  simp only at this ⊢
  omega
 ·repeat' split
  all_goals exact Nat.zero_le _
theorem ZmC {G:Prop}(h:G:=by(first|(apply ZaB;rfl;rfl;omega;omega;(intro w' _ hO;exact(Zcb (hO.of (A := .row (.slice An N.length cn) 9 1 N.length (N.flatMap Zav)) (by repeat' constructor)) hg1).1))|(apply ZdU;rfl;(focus repeat' constructor);exact hg1))):G:=h
theorem ZsQ (Ar Az Al As:Option Addr)(cr cz cl cs:Nat)(a:Zac)(w:World)(hG:Glob w)(hA:Zan w Ar Az Al As cr cz cl cs a)(hS:ZhN a)(hV:SavI a) :
  Does Tryz.prog 51 [srcV Ar Az Al As cr cz cl cs a] w (fun v O=>v=ptV (Zih a)/\O=[]):=by
 have hn:=hS.nr
 have hnm:=fun w' (hw:Bel w.heap.size w w')=>ZkO Ar Az Al As cr cz cl cs a w' (hA.up hw) hn
 have hNm:=Zhw a.rules []
 have hNl:=ZfG a.rules []
 unfold Zih
 generalize ZaS a.rules []=N at *
 simp only[List.length_nil,Nat.zero_add]at hNl
 obtain⟨res,hres⟩:∃ res,Zd8 a.rules N=res:=⟨_,rfl⟩
 rw[hres]
 refine Zaa Tryz.func51 rfl rfl rfl rfl ?_
 repeat (first|(refine js ?_;(first|(apply Zad (h:=fun w' hw _=>hnm w' hw);rfl;rintro v O' ⟨An,cn,rfl,rfl⟩)|(refine bx ?_;intro bk)))|refine walk ?_)
 rename_i b1
 obtain⟨b2,hb2⟩:∃ b2,bk=b2:=⟨_,rfl⟩
 rw[hb2]
 clear hb2 bk
 refine Zaq [(1,.pointer (some ⟨b1,0,none⟩)),(2,.pointer (some ⟨b2,0,none⟩)),(12,.slice An N.length cn),(13,.int .i64 N.length)] [.row (.slice An N.length cn) 9 1 N.length (N.flatMap Zav),.blk b2 [.int .i64 0,.int .i64 0,.int .i64 0] 36,.blk b1 [.slice Ar a.rules.length cr,.slice Az a.zones.length cz,.slice Al a.links.length cl,.slice As a.shifts.length cs] 117]
  (fun k:Nat=>[(14,.int .i64 k)]) (fun _=>[]) (fun k=>k<=N.length/\Zd8 a.rules (N.drop k)=res) (fun k=>N.length - k) 0 SFA SOA ⟨Nat.zero_le _,hres⟩ ?_
 clear hnm hres
 rintro k ⟨hk,hi⟩
 repeat (first|(refine js ?_;(refine bx ?_;intro bk))|refine walk ?_)
 refine Zah rfl (fun hc=>?_) (fun hc=>?_)
 ·simp only[decide_eq_true_eq,Int.ofNat_lt]at hc
  have hg1:(N.flatMap Zav)[k*1]?=some (.string N[k]):=by
   have:=ZaK (enc:=Zav) (fun _=>rfl) N k _ 0 (.string N[k]) (List.getElem?_eq_getElem hc) rfl
   simpa using this
  have hxm:=hNm _ (List.getElem_mem hc)
  rw[Zao hc,Zd8]at hi
  generalize N[k]=x at *
  have hxs:x.size<=1000000000:=by
   rcases hxm with h|⟨r,hr,rfl⟩
   ·cases h
   ·exact(hS.rs r hr).1
  have hof:=fun w' (hw:Bel w.heap.size w w')=>Zdf Ar Az Al As cr cz cl cs a x w' (hA.up hw) hn
  have hset:=fun w'=>ZxU x (by omega) w'
  have hRs:∀ r∈ofB a.rules x,r∈a.rules:=fun r h=>ZuP h
  have hRl:=Zpo a.rules x
  have hck:=fun A3 c3 w' (hw:Bel w.heap.size w w') h=>Zm9 A3 c3 (ofB a.rules x) w' (hG.up hw) h (by omega) (fun r hr=>⟨hV r (hRs r hr),by have:=(hS.rs r (hRs r hr)).2;omega⟩)
  have hap:=fun(hz:(Zes (ofB a.rules x)).2=0) A3 c3 w' (hw:Bel w.heap.size w w') h=>Ztt A3 c3 (ofB a.rules x) w' (hG.up hw) h (by omega) (fun r hr=>(Zna hz r hr).1)
  have hru0:=fun(i:Nat) (hi:i<=1000000) w' (hw:Bel w.heap.size w w')=>Zuu Ar Az Al As cr cz cl cs a x i w' (hA.up hw) hn hi
  have hcl:=ZxW (ofB a.rules x)
  have har:=Zqc (ofB a.rules x)
  unfold Zco at hi
  generalize ofB a.rules x=R at *
  cases hsb:setB x with
  | false =>
   rw[hsb]at hi hset
   rw[if_pos rfl]at hi
   dsimp only at hi
   have hru:=hru0 0 (Nat.zero_le _)
   generalize Zeb x a.rules 0 0=pl at *
   obtain⟨p1,p2,p3⟩:=pl
   simp only[plV,Zas.enc]at hru
   subst hi
   simp only[ptV,plV,Zas.enc]
   repeat (first|(apply RL_pu;rfl;exact ZmC)|(refine js ?_;(first|(apply Zad (h:=fun w' hw _=>hof w' hw);rfl;rintro v O' ⟨A3,c3,rfl,rfl⟩)|(refine Zae (fun w' hw=>hset w') ?_)|(refine Zae hru ?_)|(refine bx ?_;intro bk)))|refine walk1 ?_)
   exact rtC
  | true =>
   rw[hsb]at hi hset
   rw[if_neg (by decide)]at hi
   generalize Zes R=rc at *
   obtain⟨ci,ce⟩:=rc
   dsimp only at hi hck hcl hap
   by_cases hce:ce=0
   ·subst hce
    replace hap:=hap rfl
    rw[if_neg (fun h=>h rfl)]at hi
    generalize Zgb R=ap at *
    cases ap with
    | none =>
     simp only[apV,Zaf.enc,dEv0]at hap
     dsimp only at hi
     repeat (first|(apply RL_pu;rfl;exact ZmC)|(refine js ?_;(first|(apply Zad (h:=fun w' hw _=>hof w' hw);rfl;rintro v O' ⟨A3,c3,rfl,rfl⟩)|(refine Zae (fun w' hw=>hset w') ?_)|(refine ZaX (fun w' hw hO=>hck A3 c3 w' hw (Zbc Zab.len (hO.of (A := .row (.slice A3 R.length c3) 56 11 R.length (R.flatMap Zab.enc)) (by repeat' constructor)))) ?_)|(refine ZaX (fun w' hw hO=>hap A3 c3 w' hw (Zbc Zab.len (hO.of (A := .row (.slice A3 R.length c3) 56 11 R.length (R.flatMap Zab.enc)) (by repeat' constructor)))) ?_)|(refine bx ?_;intro bk)))|refine walk1 ?_)
     exact⟨k+1,OA,⟨OA,hi⟩,SFA,SOA⟩
    | some e =>
     obtain⟨j,hj,hjl⟩:=har e rfl
     obtain⟨ey,er,en⟩:=e
     dsimp only at hj
     subst hj
     simp only[apV,Zaf.enc]at hap
     simp only[Int.toNat_natCast]at hi
     have hru:=hru0 j (by omega)
     generalize Zeb x a.rules j 0=pl at *
     obtain⟨p1,p2,p3⟩:=pl
     simp only[plV,Zas.enc]at hru
     subst hi
     simp only[ptV,plV,Zas.enc]
     repeat (first|(apply RL_pu;rfl;exact ZmC)|(refine js ?_;(first|(apply Zad (h:=fun w' hw _=>hof w' hw);rfl;rintro v O' ⟨A3,c3,rfl,rfl⟩)|(refine Zae (fun w' hw=>hset w') ?_)|(refine ZaX (fun w' hw hO=>hck A3 c3 w' hw (Zbc Zab.len (hO.of (A := .row (.slice A3 R.length c3) 56 11 R.length (R.flatMap Zab.enc)) (by repeat' constructor)))) ?_)|(refine ZaX (fun w' hw hO=>hap A3 c3 w' hw (Zbc Zab.len (hO.of (A := .row (.slice A3 R.length c3) 56 11 R.length (R.flatMap Zab.enc)) (by repeat' constructor)))) ?_)|(refine Zae hru ?_)|(refine bx ?_;intro bk)))|refine walk1 ?_)
     exact rtC
   ·rw[if_pos hce]at hi
    dsimp only at hi
    have hb:decide (ce=0)=false:=decide_eq_false hce
    have hb2:(!decide (ce=0))=true:=by rw[hb];rfl
    have hru:=hru0 ci (by omega)
    generalize Zeb x a.rules ci 0=pl at *
    obtain⟨p1,p2,p3⟩:=pl
    simp only[plV,Zas.enc]at hru
    subst hi
    simp only[ptV,plV,Zas.enc]
    repeat (first|(apply RL_pu;rfl;(first|exact ZmC|(apply ZaA;rfl;rfl;exact hb)|(apply ZaH;rfl;rfl;exact hb2)))|(refine js ?_;(first|(apply Zad (h:=fun w' hw _=>hof w' hw);rfl;rintro v O' ⟨A3,c3,rfl,rfl⟩)|(refine Zae (fun w' hw=>hset w') ?_)|(refine ZaX (fun w' hw hO=>hck A3 c3 w' hw (Zbc Zab.len (hO.of (A := .row (.slice A3 R.length c3) 56 11 R.length (R.flatMap Zab.enc)) (by repeat' constructor)))) ?_)|(refine Zae hru ?_)|(refine bx ?_;intro bk)))|refine walk1 ?_)
    exact rtC
 ·simp only[decide_eq_false_iff_not,Int.ofNat_lt]at hc
  rw[List.drop_eq_nil_of_le (by omega),Zd8]at hi
  subst hi
  repeat (first|(refine js ?_;(refine bx ?_;intro bk))|refine walk ?_)
  exact rtC
theorem ZCe {α:Type}{w:World}{A:Option Addr}{c sz:Nat}{enc:α->List Value}{l:List α}(h:RdSl w A c enc sz l)(k:Nat):RdSl w A c enc sz (l.take k) where
 le:=by have:=h.le;rw[List.length_take];omega
 cap:=h.cap
 rd:=fun j x hj=>h.rd j x (by
  rw[List.getElem?_take]at hj
  split at hj
  ·exact hj
  ·cases hj)
theorem Zxs {G:Prop}(h:G:=by(first|exact PuI|(apply ZaA;rfl;rfl;exact hb))):G:=h
theorem ZqH {G:Prop}(h:G:=by(first|exact Zxs|(apply Pu_sliceH;rfl;rfl;omega;omega))):G:=h
theorem ZtP {G G':Prop}(k:G')(h:Hold G'->G:=by intro k9;(first|(apply RL_pu;rfl;exact ZqH)|(refine js ?_;(first|(refine ZaX (fun w' hw hO=>hot A3 c3 w' (Zbc Zab.len (hO.of (A := .row (.slice A3 R.length c3) 56 11 R.length (R.flatMap Zab.enc)) (by repeat' constructor)))) ?_)|(refine Zae hco ?_)|(refine ZaX (fun w' hw hO=>hle A3 c3 w' (Zbc Zab.len (hO.of (A := .row (.slice A3 R.length c3) 56 11 R.length (R.flatMap Zab.enc)) (by repeat' constructor)))) ?_)))|refine walk1 ?_);exact k9.out):G:=h ⟨k⟩
theorem Znz (Ar Az Al As:Option Addr)(cr cz cl cs:Nat)(a:Zac)(w:World)(hA:Zan w Ar Az Al As cr cz cl cs a)(hS:ZhN a) :
  Does Tryz.prog 52 [srcV Ar Az Al As cr cz cl cs a] w (fun v O=>v=ptV (Zbw a a.shifts [] 0)/\O=[]):=by
 have hn:=hS.nr
 have hns:=hS.ns
 have hcap:=hA.s.le
 obtain⟨res,hres⟩:∃ res,Zbw a a.shifts [] 0=res:=⟨_,rfl⟩
 rw[hres]
 refine Zaa Tryz.func52 rfl rfl rfl rfl ?_
 repeat (first|(refine js ?_;(refine bx ?_;intro bk))|refine walk ?_)
 rename_i b1
 obtain⟨b2,hb2⟩:∃ b2,bk=b2:=⟨_,rfl⟩
 rw[hb2]
 clear hb2 bk
 refine Zaq [(1,.pointer (some ⟨b1,0,none⟩)),(2,.pointer (some ⟨b2,0,none⟩)),(12,.slice As a.shifts.length cs),(13,.int .i64 a.shifts.length)] [.blk b2 [.int .i64 0,.int .i64 0,.int .i64 0] 36,.blk b1 [.slice Ar a.rules.length cr,.slice Az a.zones.length cz,.slice Al a.links.length cl,.slice As a.shifts.length cs] 117]
  (fun k:Nat=>[(14,.int .i64 k)]) (fun _=>[]) (fun k=>k<=a.shifts.length/\Zbw a (a.shifts.drop k) (a.shifts.take k) k=res) (fun k=>a.shifts.length - k) 0 SFA SOA ⟨Nat.zero_le _,hres⟩ ?_
 clear hres
 rintro k ⟨hk,hi⟩
 repeat (first|(refine js ?_;(refine bx ?_;intro bk))|refine walk ?_)
 refine Zah rfl (fun hc=>?_) (fun hc=>?_)
 ·simp only[decide_eq_true_eq,Int.ofNat_lt]at hc
  obtain⟨hna,hca⟩:=hA.s.rd k _ (List.getElem?_eq_getElem hc)
  have htk:=List.take_append_getElem hc
  have hco:=fun w' (hw:Bel w.heap.size w w')=>ZeH As cs (a.shifts.take k) a.shifts[k] w' ((ZCe hA.s k).up hw)
  rw[show(a.shifts.take k).length=k by rw[List.length_take];omega]at hco
  rw[Zao hc,Zbw]at hi
  rw[htk]at hi
  generalize a.shifts[k]=x at *
  have hof:=fun w' (hw:Bel w.heap.size w w')=>Zdf Ar Az Al As cr cz cl cs a x w' (hA.up hw) hn
  have hot:=fun A3 c3 w' h=>Zhu A3 c3 (ofB a.rules x) w' h
  have hle:=fun A3 c3 w' h=>Zch A3 c3 (ofB a.rules x) w' h
  generalize ofB a.rules x=R at *
  generalize Zbo R=od at *
  obtain⟨ox,ob⟩:=od
  dsimp only at hi hot
  by_cases hR:R=[]
  ·rw[if_pos hR]at hi
   subst hi
   have hb:decide ((R.length:Int)=0)=true:=by rw[hR];rfl
   simp only[ptV,plV,Zas.enc]
   repeat (first|(apply RL_pu;rfl;exact Zxs)|(refine js ?_;(first|(apply Zad (h:=fun w' hw _=>hof w' hw);rfl;rintro v O' ⟨A3,c3,rfl,rfl⟩)|(refine ZaX (fun w' hw hO=>hot A3 c3 w' (Zbc Zab.len (hO.of (A := .row (.slice A3 R.length c3) 56 11 R.length (R.flatMap Zab.enc)) (by repeat' constructor)))) ?_)|(refine bx ?_;intro bk)))|refine walk1 ?_)
   exact rtC
  rw[if_neg hR]at hi
  have hb:decide ((R.length:Int)=0)=false:=decide_eq_false (fun h=>hR (List.eq_nil_of_length_eq_zero (by omega)))
  cases hm:memB x (a.shifts.take k) with
  | true =>
   rw[hm]at hi hco
   rw[if_pos rfl]at hi
   subst hi
   simp only[ptV,plV,Zas.enc]
   repeat (first|(apply RL_pu;rfl;exact ZqH)|(refine js ?_;(first|(apply Zad (h:=fun w' hw _=>hof w' hw);rfl;rintro v O' ⟨A3,c3,rfl,rfl⟩)|(refine ZaX (fun w' hw hO=>hot A3 c3 w' (Zbc Zab.len (hO.of (A := .row (.slice A3 R.length c3) 56 11 R.length (R.flatMap Zab.enc)) (by repeat' constructor)))) ?_)|(refine Zae hco ?_)|(refine bx ?_;intro bk)))|refine walk1 ?_)
   exact rtC
  | false =>
   rw[hm]at hi hco
   rw[if_neg (by decide)]at hi
   generalize Zaj R=lt at *
   by_cases hl:lt=0
   ·subst hl
    cases ob with
    | false =>
     rw[if_pos (.inr rfl)]at hi
     subst hi
     simp only[ptV,plV,Zas.enc]
     repeat (first|refine ZtP ?_|(refine js ?_;(first|(apply Zad (h:=fun w' hw _=>hof w' hw);rfl;rintro v O' ⟨A3,c3,rfl,rfl⟩)|(refine bx ?_;intro bk))))
     exact rtC
    | true =>
     rw[if_neg (by rintro(h|h);exact h rfl;cases h)]at hi
     repeat (first|refine ZtP ?_|(refine js ?_;(first|(apply Zad (h:=fun w' hw _=>hof w' hw);rfl;rintro v O' ⟨A3,c3,rfl,rfl⟩)|(refine bx ?_;intro bk))))
     exact⟨k+1,OA,⟨OA,hi⟩,SFA,SOA⟩
   ·rw[if_pos (.inl hl)]at hi
    subst hi
    have hb2:(!decide (lt=0))=true:=by rw[decide_eq_false hl];rfl
    simp only[ptV,plV,Zas.enc]
    repeat (first|(apply RL_pu;rfl;(first|exact ZqH|(apply ZaH;rfl;rfl;exact hb2)))|(refine js ?_;(first|(apply Zad (h:=fun w' hw _=>hof w' hw);rfl;rintro v O' ⟨A3,c3,rfl,rfl⟩)|(refine ZaX (fun w' hw hO=>hot A3 c3 w' (Zbc Zab.len (hO.of (A := .row (.slice A3 R.length c3) 56 11 R.length (R.flatMap Zab.enc)) (by repeat' constructor)))) ?_)|(refine Zae hco ?_)|(refine ZaX (fun w' hw hO=>hle A3 c3 w' (Zbc Zab.len (hO.of (A := .row (.slice A3 R.length c3) 56 11 R.length (R.flatMap Zab.enc)) (by repeat' constructor)))) ?_)|(refine bx ?_;intro bk)))|refine walk1 ?_)
    exact rtC
 ·simp only[decide_eq_false_iff_not,Int.ofNat_lt]at hc
  rw[List.drop_eq_nil_of_le (by omega),Zbw]at hi
  subst hi
  repeat (first|(refine js ?_;(refine bx ?_;intro bk))|refine walk ?_)
  exact rtC
theorem Zxr {G:Prop}(h:G:=by(apply ZcJ;rfl;rfl;exact b1)):G:=h
theorem ZkY (off save:Int)(ho:I64 off)(hs:I64 save)(w:World):Does Tryz.prog 131 [.int .i64 off,.int .i64 save] w (fun v O=>v = .bool (ZbG off save)/\O=[]):=by
 have hsm:=fun w'=>Zj2 off save ho hs w'
 refine Zaa Tryz.func131 rfl rfl rfl rfl ?_
 cases hok:ZdD (off+save) with
 | false =>
  rw[hok]at hsm
  have hb:ZbG off save=false:=by
   unfold ZbG
   by_cases h1 : -54000<=off+save
   ·by_cases h2:off+save<=54000
    ·exfalso
     have:ZdD (off+save)=true:=by unfold ZdD;rw[decide_eq_true (by omega),decide_eq_true (by omega)];rfl
     rw[this]at hok
     cases hok
    ·rw[decide_eq_false h2,Bool.and_false]
   ·rw[decide_eq_false h1,Bool.false_and]
  rw[hb]
  repeat (first|refine und ?_|(refine js ?_;(refine Zae (fun w' hw=>hsm w') ?_))|refine walk ?_)
  exact rtA
 | true =>
  rw[hok,if_pos rfl]at hsm
  unfold ZbG
  generalize off+save=x at *
  by_cases h1 : -54000<=x
  ·have b1:decide (-54000<=x)=true:=decide_eq_true h1
   rw[b1]
   repeat (first|refine und ?_|(apply RL_pu;rfl;exact Zxr)|(refine js ?_;(refine Zae (fun w' hw=>hsm w') ?_))|refine walk1 ?_)
   exact rtA
  ·have b1:decide (-54000<=x)=false:=decide_eq_false h1
   rw[b1]
   repeat (first|refine und ?_|(apply RL_pu;rfl;exact Zxr)|(refine js ?_;(refine Zae (fun w' hw=>hsm w') ?_))|refine walk1 ?_)
   exact rtA
theorem ZgN (Ar Az Al As:Option Addr)(cr cz cl cs:Nat)(a:Zac)(e:DEra)(w:World)(hA:Zan w Ar Az Al As cr cz cl cs a)(hn:a.rules.length<=1000000) :
  Does Tryz.prog 132 [srcV Ar Az Al As cr cz cl cs a,.agg e.enc.toArray] w (Zik 56 11 Zab.enc (Zaz a.rules e)):=by
 have hof:=fun w' (hw:Bel w.heap.size w w')=>Zdf Ar Az Al As cr cz cl cs a e.set w' (hA.up hw) hn
 unfold Zaz
 obtain⟨off,kind,save,set,format,til⟩:=e
 dsimp only at hof ⊢
 simp only[DEra.enc]
 refine Zaa Tryz.func132 rfl rfl rfl rfl ?_
 by_cases hk:kind=2
 ·subst hk
  rw[if_pos rfl]
  generalize ofB a.rules set=R at *
  repeat (first|(refine js ?_;(first|(apply Zad (h:=fun w' hw _=>hof w' hw);rfl;rintro v O' ⟨A3,c3,rfl,rfl⟩)|(refine bx ?_;intro bk)))|refine walk ?_)
  exact ret_1 _ [.row (.slice A3 R.length c3) 56 11 R.length (R.flatMap Zab.enc)] (.tmp rfl) SOA ⟨A3,c3,rfl,rfl⟩
 ·rw[if_neg hk]
  have hb:(!decide (kind=2))=true:=by rw[decide_eq_false hk];rfl
  refine Zdj 56 11 ?_
  repeat (first|(apply RL_pu;rfl;(apply ZaH;rfl;rfl;exact hb))|(refine js ?_;(refine bx ?_;intro bk))|refine walk1 ?_)
  exact ret_1 _ [.row (.slice none 0 0) 56 11 0 []] (.tmp rfl) SOA ⟨none,0,rfl,rfl⟩
def Zcy (x:Int × ByteArray):List Value:=[.int .i64 x.1,.string x.2]
theorem Zcy.len (x:Int × ByteArray):(Zcy x).length=2:=rfl
structure StG where
 k:Nat
 A:Option Addr
 c:Nat
 m:Nat
 ys:List Value
def StR (l:List (Int × ByteArray))(v:Value)(O:List It):Prop:=Zik 156 2 Zcy l v O\/∃ b x,l=[x]/\v = .slice (some ⟨b,0,none⟩) 1 1/\O=[.blk b (Zcy x) 156]
theorem Zxq {G:Prop}(h:G:=by(apply ZaA;rfl;rfl;exact b1)):G:=h
theorem ZmX (Ar Az Al As:Option Addr)(cr cz cl cs:Nat)(a:Zac)(e:DEra)(w:World)(hA:Zan w Ar Az Al As cr cz cl cs a)(hn:a.rules.length<=1000000) :
  Does Tryz.prog 134 [srcV Ar Az Al As cr cz cl cs a,.agg e.enc.toArray] w (StR (ZaE a.rules e)):=by
 have hst:=fun w' (hw:Bel w.heap.size w w')=>ZgN Ar Az Al As cr cz cl cs a e w' (hA.up hw) hn
 have hRl:(Zaz a.rules e).length<=1000000:=by
  unfold Zaz
  split
  ·exact Nat.le_trans (Zpo _ _) hn
  ·exact Nat.zero_le _
 unfold ZaE
 generalize Zaz a.rules e=R at *
 obtain⟨off,kind,save,set,format,til⟩:=e
 dsimp only at hst ⊢
 simp only[DEra.enc]at hst ⊢
 refine Zaa Tryz.func134 rfl rfl rfl rfl ?_
 by_cases hk1:kind=1
 ·subst hk1
  rw[if_pos rfl]
  repeat (first|(refine js ?_;(refine bx ?_;intro bk))|refine walk ?_)
  exact ret_1 _ [.blk bk [.int .i64 save,.string ByteArray.empty] 156] (.tmp rfl) SOA (.inr ⟨bk,(save,ByteArray.empty),rfl,rfl,rfl⟩)
 have b1:decide (kind=1)=false:=decide_eq_false hk1
 rw[if_neg hk1]
 by_cases hk2:kind=2
 ·subst hk2
  rw[if_pos rfl]
  repeat (first|(apply RL_pu;rfl;exact Zxq)|(refine js ?_;(first|(apply Zad (h:=fun w' hw _=>hst w' hw);rfl;rintro v O' ⟨A3,c3,rfl,rfl⟩)|(refine bx ?_;intro bk)))|refine walk1 ?_)
  refine Zdj 156 2 ?_
  refine Zaq [(20,.slice A3 R.length c3),(21,.int .i64 R.length)] [.row (.slice A3 R.length c3) 56 11 R.length (R.flatMap Zab.enc)] (fun g:StG=>[(5,.slice g.A g.m g.c),(22,.int .i64 g.k)]) (fun g=>[.row (.slice g.A g.m g.c) 156 2 g.m g.ys])
   (fun g=>g.k<=R.length/\g.m=g.k/\g.ys=((R.take g.k).map fun r=>(r.save,r.letter)).flatMap Zcy) (fun g=>R.length - g.k) ⟨0,none,0,0,[]⟩ SFA SOA ⟨Nat.zero_le _,rfl,rfl⟩ ?_
  rintro⟨k,A1,c1,m,ys⟩ ⟨hkl,hm,hy⟩
  dsimp only at hkl hm hy ⊢
  repeat (first|(refine js ?_;(refine bx ?_;intro bk))|refine walk ?_)
  refine Zah rfl (fun hc=>?_) (fun hc=>?_)
  ·simp only[decide_eq_true_eq,Int.ofNat_lt]at hc
   have hg1:=ZaK Zab.len R k _ 0 _ (List.getElem?_eq_getElem hc) rfl
   have hgn:∀ j v,(Zab.enc R[k])[j]?=some v->(R.flatMap Zab.enc)[k*11+j]?=some v:=fun j v hj=>ZaK Zab.len R k _ j v (List.getElem?_eq_getElem hc) hj
   have htk:=List.take_append_getElem hc
   generalize R[k]=r at *
   simp only[Zab.enc]at hgn hg1
   repeat (first|(apply RL_pu;rfl;(first|(apply ZaB;rfl;rfl;omega;omega;(intro w' _ hO;exact(Zcb (hO.of (A := .row (.slice A3 R.length c3) 56 11 R.length (R.flatMap Zab.enc)) (by repeat' constructor)) hg1).1))|(apply ZbZ;rfl;(focus repeat' constructor);exact hgn;rfl)))|(refine js ?_;(first|(apply Zay;rfl;rfl;(intro A' c';(focus repeat' constructor));(intro w' _ hO;exact Zbv (hO.of (by repeat' constructor)));rfl;rfl;(simp only[maxLen];omega);omega;intro A' c' hc1 hc2 hc3)|(refine bx ?_;intro bk)))|refine walk1 ?_)
   exact⟨⟨k+1,A',c',m+1,ys++[.int .i64 r.save,.string r.letter]⟩,OA,⟨OA,OA,by dsimp only;rw[hy,<- htk];simp[Zcy]⟩,SFA,SOA⟩
  ·obtain rfl:k=R.length:=by simp only[decide_eq_false_iff_not,Int.ofNat_lt]at hc;omega
   rw[List.take_length]at hy
   subst hm hy
   repeat (first|(refine js ?_;(refine bx ?_;intro bk))|refine walk ?_)
   exact ret_1 _ [.row (.slice A1 R.length c1) 156 2 R.length ((R.map fun r=>(r.save,r.letter)).flatMap Zcy)] (.tmp rfl) SOA (.inl ⟨A1,c1,by rw[List.length_map],by rw[List.length_map]⟩)
 have b2:decide (kind=2)=false:=decide_eq_false hk2
 rw[if_neg hk2]
 repeat (first|(apply RL_pu;rfl;(first|exact Zxq|(apply ZaA;rfl;rfl;exact b2)))|(refine js ?_;(refine bx ?_;intro bk))|refine walk1 ?_)
 exact ret_1 _ [.blk bk [.int .i64 0,.string ByteArray.empty] 156] (.tmp rfl) SOA (.inr ⟨bk,(0,ByteArray.empty),rfl,rfl,rfl⟩)
theorem ZiM (Ar Az Al As:Option Addr)(cr cz cl cs:Nat)(a:Zac)(e:DEra)(w:World)(hA:Zan w Ar Az Al As cr cz cl cs a)(hn:a.rules.length<=1000000) :
  Does Tryz.prog 134 [srcV Ar Az Al As cr cz cl cs a,.agg e.enc.toArray] w (Zik 156 2 Zcy (ZaE a.rules e)) :=
 (ZmX Ar Az Al As cr cz cl cs a e w hA hn).monoH fun v O base w' hR hH=>by
  rcases hR with h|⟨b,x,hl,rfl,rfl⟩
  ·exact⟨O,h,hH⟩
  ·rw[hl]
   exact⟨_,⟨some ⟨b,0,none⟩,1,rfl,rfl⟩,hH.toRow (m:=1) 2 rfl (by decide) (by simpa using Upd.here)⟩
end Go.Proofs.YtbjomhdhkpgbaaaGreatDoor
namespace Go.Wk
open Go Go.RowKit
theorem Zy9 {P:Program}{n:Nat}{wr:World}{fr:Fr}{O:List It}{ty t t':TypeId}{α:Type}[DecidableEq α]{enc:α->List Value}{x y:Operand}{i j:α}{b:Bool}[hE:EqE P t α enc](hx:ev fr x=some (.agg (enc i).toArray))(hy:ev fr y=some (.agg (enc j).toArray))(h:(!decide (i=j))=b) :
  Pu P n wr fr O (.binOp .neq t x y t') ty (.bool b):=h▸Pu_neqE hx hy
end Go.Wk
namespace Go.Proofs.YtbjomhdhkpgbaaaGreatDoor
open Go Go.RowKit Go.Wk
attribute [local irreducible] W RL Does Zar Zal retQ Calls Pu Stp RD Qy Ay Zak
theorem ZnN (A:Option Addr)(c:Nat)(l:List (Int × ByteArray))(f:FuncId)[Body Tryz.prog f](us cs:List Value)(p:Int × ByteArray->Bool)(w:World)(hA:RdSl w A c Zcy 2 l)
  (hf:∀ r∈l,∀ w',Bel w.heap.size w w'->Does Tryz.prog f (us++[.agg (Zcy r).toArray]++cs) w' (fun v O=>v = .bool (p r)/\O=[])) :
  Does Tryz.prog 176 [.slice A l.length c,.func (.func f) us.toArray cs.toArray] w (fun v O=>v = .int .i64 (ZbQ p l 0)/\O=[]):=by
 have hs1:=hA.le
 have hs2:=hA.cap
 unfold maxLen at hs2
 generalize hres:ZbQ p l 0=res
 refine Zaa Tryz.func176 rfl rfl rfl rfl ?_
 repeat (first|refine walk ?_)
 refine Zaq [(0,_),(1,_),(4,_),(7,_)] _ (fun k:Nat=>[(8,.int .i64 k)]) (fun _=>[]) (fun k=>k<=l.length/\ZbQ p (l.drop k) k=res) (fun k=>l.length - k) 0 ⟨rfl,rfl,rfl,rfl,rfl,trivial⟩ (.refl _) ⟨by omega,by simpa using hres⟩ ?_
 rintro k ⟨hk,hi⟩
 repeat (first|refine walk ?_)
 refine Zah rfl (fun hc=>?_) (fun hc=>?_)
 ·simp only[decide_eq_true_eq,Int.ofNat_lt]at hc
  obtain⟨hna,hca⟩:=hA.rd k _ (List.getElem?_eq_getElem hc)
  have hnb:=hna
  have hcb:=hca
  rw[Zao hc,ZbQ]at hi
  have hrm:=List.getElem_mem hc
  generalize l[k]=r at *
  repeat (first|(apply RL_pu;rfl;exact PuI)|(refine js ?_;(refine Zeh (fun w' hw _=>hf r hrm w' hw) ?_))|refine walk1 ?_)
  refine Zah rfl (fun h3=>?_) (fun h3=>?_)
  ·repeat (first|refine walk ?_)
   rw[if_pos h3]at hi
   exact ret_1 _ [] (.tmp rfl) .nil ⟨by rw[<- hi],rfl⟩
  repeat (first|refine walk ?_)
  rw[h3]at hi
  exact⟨k+1,by omega,⟨by omega,hi⟩,SFA,SOA⟩
 simp only[decide_eq_false_iff_not,Int.ofNat_lt]at hc
 repeat (first|refine walk ?_)
 exact ret_1 _ [] (.tmp rfl) .nil ⟨by rw[<- hi,List.drop_eq_nil_of_le (by omega)];rfl,rfl⟩
theorem ZjP (A:Option Addr)(c:Nat)(l:List (Int × ByteArray))(f:FuncId)[Body Tryz.prog f](us cs:List Value)(p:Int × ByteArray->Bool)(w:World)(hA:RdSl w A c Zcy 2 l)
  (hf:∀ r∈l,∀ w',Bel w.heap.size w w'->Does Tryz.prog f (us++[.agg (Zcy r).toArray]++cs) w' (fun v O=>v = .bool (p r)/\O=[])) :
  Does Tryz.prog 133 [.slice A l.length c,.func (.func f) us.toArray cs.toArray] w (fun v O=>v = .bool (l.any p)/\O=[]):=by
 have h:=fun w' (hw:Bel w.heap.size w w')=>ZnN A c l f us cs p w' (hA.up hw) fun r hr w2 h2=>hf r hr w2 (hw.trans (h2.mono hw.size))
 rw[<- Zjy p l 0]
 generalize ZbQ p l 0=k at *
 refine Zaa Tryz.func133 rfl rfl rfl rfl ?_
 repeat (first|(refine js ?_;(refine Zae h ?_))|refine walk ?_)
 exact rtA
theorem ZvO (x:Int × ByteArray)(ad:Addr)(off:Int)(w:World)(h:w.cell? ad=some (.int .i64 off))(ho:I64 off)(hx:I64 x.1):Does Tryz.prog 130 [.agg (Zcy x).toArray,.pointer (some ad)] w (fun v O=>v = .bool (!ZbG off x.1)/\O=[]):=by
 obtain⟨sv,lt⟩:=x
 dsimp only at hx ⊢
 have hh:=fun w'=>ZkY off sv ho hx w'
 generalize ZbG off sv=hb at *
 simp only[Zcy]
 refine Zaa Tryz.func130 rfl rfl rfl rfl ?_
 repeat (first|(apply RL_pu;rfl;(apply Pu_loadO1;rfl;exact h))|(refine js ?_;(first|(refine Zae (fun w' hw=>hh w') ?_)|(refine bx ?_;intro bk)))|refine walk1 ?_)
 exact rtA
instance : EqE Tryz.prog 52 ZaZ ZaZ.enc where
 h r s w:=by
  unfold ZaZ.enc
  simp[go_sem,Zdl]
  rcases r with⟨_,_,_,⟨_,_,_⟩,⟨_,_⟩⟩
  rcases s with⟨_,_,_,⟨_,_,_⟩,⟨_,_⟩⟩
  simp only[ZkM,Result.ok.injEq,and_true]
  rw[Bool.eq_iff_iff]
  simp[and_assoc]
 g:=by kernel_rfl
theorem ZoV (e:DEra)(w:World):Does Tryz.prog 135 [.agg e.enc.toArray] w (fun v O=>v = .bool (Ze7 e)/\O=[]):=by
 obtain⟨off,kind,save,set,format,til⟩:=e
 unfold Ze7
 dsimp only
 obtain⟨is,year,month,⟨dk,dw,dd⟩,⟨cs,cb⟩⟩:=til
 dsimp only
 obtain⟨n1,e1⟩:∃ b,(!decide (kind=1))=b:=⟨_,rfl⟩
 obtain⟨n2,e2⟩:∃ b,(!decide (save=0))=b:=⟨_,rfl⟩
 obtain⟨n3,e3⟩:∃ b,(!decide (kind=2))=b:=⟨_,rfl⟩
 obtain⟨n4,e4⟩:∃ b,(!decide (set=ByteArray.empty))=b:=⟨_,rfl⟩
 obtain⟨n5,e5⟩:∃ b,(!decide ((⟨false,year,month,⟨dk,dw,dd⟩,⟨cs,cb⟩⟩:ZaZ)=dU0))=b:=⟨_,rfl⟩
 rw[e1,e2,e3,e4,e5]
 simp only[DEra.enc]
 refine Zaa Tryz.func135 rfl rfl rfl rfl ?_
 repeat' (first|(apply RL_pu;rfl;(first|(apply ZaH;rfl;rfl;exact e1)|(apply ZaH;rfl;rfl;exact e2)|(apply ZaH;rfl;rfl;exact e3)|(apply ZeN;rfl;rfl;exact e4)|(apply Zy9 (i:=(⟨false,year,month,⟨dk,dw,dd⟩,⟨cs,cb⟩⟩:ZaZ)) (j:=dU0) (enc:=ZaZ.enc);rfl;rfl;exact e5)))|(refine js ?_;(refine bx ?_;intro bk))|refine walk1 ?_|refine und ?_|(refine Zax rfl rfl rfl (fun hc=>?_) (fun hc=>?_))|(refine Zaw rfl rfl rfl (fun hc=>?_) (fun hc=>?_))|(refine Zah rfl (fun hc=>?_) (fun hc=>?_)))
 all_goals exact clo1
end Go.Proofs.YtbjomhdhkpgbaaaGreatDoor
