/- Parts of the proof. -/
import Derived.Test.YtdlmhmmhdbbliaaGreatDoorV14
import Derived.Test.YtdlmhmmhdbbliaaGreatDoorV16
set_option maxHeartbeats 4000000
set_option linter.unusedVariables false
set_option linter.unusedSimpArgs false
set_option maxHeartbeats 2000000
namespace Go.Wk
open Go Go.RowKit
structure ZhV (s:Zai):Prop where
 nr:s.rules.length<=1000000
 nz:s.zones.length<=1000000
 nl:s.links.length<=1000000
 ns:s.shifts.length<=1000000
 rs:∀ r∈s.rules,r.name.size<=1000000000/\r.letter.size<=1000000000
 zs:∀ z∈s.zones,z.name.size<=1000000000/\z.eras.length<=1000000/\∀ e∈z.eras,e.set.size<=1000000000/\e.format.size<=1000000000
 ls:∀ l∈s.links,l.target.size<=1000000000/\l.name.size<=1000000000
def plV (p:ZaB):Value := .agg (ZaB.enc p).toArray
def ptV:Option (ZaB × Int)->Value
 | none => .tuple #[plV ⟨0,0,0⟩,.int .i64 0]
 | some (p,e) => .tuple #[plV p,.int .i64 e]
end Go.Wk
namespace Go.Proofs.YtdlmhmmhdbbliaaGreatDoor
open Go Go.RowKit Go.Wk
attribute [local irreducible] W RL Does Zau Zak retQ Calls Pu Stp RD Qy Ay Zaj
theorem Zrj (Ar Az Al As:Option Addr)(cr cz cl cs:Nat)(a:Zai)(b1:Nat)(mk:List (ByteArray × Value))(w:World)(hA:Zav w Ar Az Al As cr cz cl cs a)(hS:ZhV a)(h1:MpAt w b1 mk)(hk:IxM mk fun x=>Zbu x a.zones 0) :
  Does Tryz.prog 179 [srcV Ar Az Al As cr cz cl cs a,.map (some b1)] w (fun v O=>v=ptV (ZaU a a.zones 0)/\O=[]):=by
 have hn:=hS.nz
 obtain⟨res,hres⟩:∃ res,ZaU a a.zones 0=res:=⟨_,rfl⟩
 rw[hres]
 refine Zaa Tryz.func179 rfl rfl rfl rfl ?_
 repeat (first|(refine js ?_;(refine bx ?_;intro bk))|refine walk ?_)
 refine Zao [(1,.map (some b1)),(4,.pointer (some ⟨bk,0,none⟩)),(10,.slice Az a.zones.length cz),(11,.int .i64 a.zones.length)] [.blk bk [.int .i64 0,.int .i64 0,.int .i64 0] 131] (fun k:Nat=>[(12,.int .i64 k)]) (fun _=>[]) (fun k=>k<=a.zones.length/\ZaU a (a.zones.drop k) k=res) (fun k=>a.zones.length - k) 0 SFA SOA ⟨Nat.zero_le _,hres⟩ ?_
 rintro k ⟨hkl,hi⟩
 obtain⟨b4,hb4⟩:∃ b4,bk=b4:=⟨_,rfl⟩
 rw[hb4]at *
 clear hb4 bk
 repeat (first|(refine js ?_;(refine bx ?_;intro bk))|refine walk ?_)
 refine Zaf rfl (fun hc=>?_) (fun hc=>?_)
 ·simp only[decide_eq_true_eq,Int.ofNat_lt]at hc
  obtain⟨hna,cs1,⟨Ae,ce,_,rfl⟩,hca⟩:=hA.z k _ (List.getElem?_eq_getElem hc)
  have hmem:=List.getElem_mem hc
  rw[Zap hc,ZaU]at hi
  generalize a.zones[k]=z at *
  have hsz:=(hS.zs z hmem).1
  obtain⟨j,hj⟩:=Zkr 0 hmem
  obtain⟨hv0,_⟩:=hk.some hj
  have hzn:=fun w'=>ZlR z.name (by omega) w'
  rw[hj]at hi
  generalize ZgU z.name=zb at *
  cases zb with
  | false =>
   rw[if_pos rfl]at hi
   subst hi
   repeat (first|(apply RL_pu;rfl;exact PuI)|(refine js ?_;(first|(refine Zac (fun w' hw=>hzn w') ?_)|(refine bx ?_;intro bk)))|refine walk1 ?_)
   exact rtC
  | true =>
   rw[if_neg (by decide)]at hi
   repeat (first|(apply RL_pu;rfl;(first|exact PuI|(apply ZnA;rfl;rfl;exact h1;exact hv0)))|(refine js ?_;(first|(refine Zac (fun w' hw=>hzn w') ?_)|(refine bx ?_;intro bk)))|refine walk1 ?_)
   refine Zaf rfl (fun h2=>?_) (fun h2=>?_)
   ·simp only[Bool.not_eq_true',decide_eq_false_iff_not]at h2
    rw[if_pos (fun e=>h2 (by simp only[Option.some.injEq]at e;omega))]at hi
    subst hi
    repeat (first|(refine js ?_;(refine bx ?_;intro bk))|refine walk ?_)
    exact rtC
   ·simp only[Bool.not_eq_false',decide_eq_true_eq]at h2
    rw[if_neg (fun e=>e (by congr 1;omega))]at hi
    repeat (first|(refine js ?_;(refine bx ?_;intro bk))|refine walk ?_)
    exact⟨k+1,OA,⟨OA,hi⟩,SFA,SOA⟩
 ·simp only[decide_eq_false_iff_not,Int.ofNat_lt]at hc
  rw[List.drop_eq_nil_of_le (by omega),ZaU]at hi
  subst hi
  repeat (first|(refine js ?_;(refine bx ?_;intro bk))|refine walk ?_)
  exact rtC
theorem IxM.any {m:List (ByteArray × Value)}{f:ByteArray->Option Nat}(h:IxM m f)(x:ByteArray):∃ n:Int,(mget m x).getD (.int .i64 0) = .int .i64 n/\(mget m x).isSome=(f x).isSome:=by
 rw[h x]
 cases f x with
 | none=>exact⟨0,rfl,rfl⟩
 | some i=>exact⟨i,rfl,rfl⟩
theorem ZeB (s:Zai):∀ (l:List Za5) (i:Nat) (p:ZaB) (e:Int),ZaU s l i=some (p,e)->e≠0
 | [],_,_,_,h=>by cases h
 | z::l,i,p,e,h=>by
  simp only[ZaU]at h
  split at h
  ·simp only[Option.some.injEq,Prod.mk.injEq]at h;omega
  ·split at h
   ·simp only[Option.some.injEq,Prod.mk.injEq]at h;omega
   ·exact ZeB s l _ p e h
theorem Zdz {G G':Prop}(k:G')(h:Hold G'->G:=by intro k9;(first|refine walk ?_|(refine jn ?_;(try intro F);(first|(refine stA ?_)|(apply Zae;exact PuA));refine fin ?_));exact k9.out):G:=h ⟨k⟩
theorem Zvu {G:Prop}(h:G:=by(apply Zaz;rfl;rfl;exact hne')):G:=h
theorem Zvt {G:Prop}(h:G:=by(first|exact PuI|(apply Zb5;rfl;rfl;(focus repeat' constructor);exact hv1;exact hc1)|(apply Zb5;rfl;rfl;(focus repeat' constructor);exact hv2;exact hc2)|(apply Zb5;rfl;rfl;(focus repeat' constructor);exact hv3;exact hc3)|(apply Zht;rfl;rfl;(focus repeat' constructor);exact hv4))):G:=h
theorem ZnU {G G':Prop}(k:G')(h:Hold G'->G:=by intro k9;(first|(apply RL_pu;rfl;exact Zvt)|(apply RD_Q;rfl;rfl;decide +kernel;rfl;rfl;exact QyLnkB2)|refine walk1 ?_|(refine jg ?_;(try intro F);(first|(refine Zac (fun w' hw=>hzn w') ?_)|(refine stA ?_));first|refine⟨_,EndsA,QFLnkB2,?_⟩|refine fin ?_)|(refine jn ?_;(try intro F);(first|(refine stA ?_)|(apply Zae;first|exact Zvt|exact PuA));first|refine⟨_,EndsA,QFLnkB2,?_⟩|refine fin ?_));exact k9.out):G:=h ⟨k⟩
theorem Zrq (Ar Az Al As:Option Addr)(cr cz cl cs:Nat)(a:Zai)(w:World)(hA:Zav w Ar Az Al As cr cz cl cs a)(hS:ZhV a) :
  Does Tryz.prog 139 [srcV Ar Az Al As cr cz cl cs a] w (fun v O=>v=ptV (ZcD a)/\O=[]):=by
 have hnz:=hS.nz
 have hnl:=hS.nl
 have hnm:=fun bm mk w' (h0:Zav w' Ar Az Al As cr cz cl cs a)=>Zrj Ar Az Al As cr cz cl cs a bm mk w' h0 hS
 refine Zaa Tryz.func139 rfl rfl rfl rfl ?_
 repeat (first|refine Zv2 ?_|(refine jn ?_;(try intro F);(first|(refine bx ?_;intro bk)|(refine stA ?_)|(apply Zae;exact PuA));refine fin ?_)|(apply RD_W;rfl;intro bk))
 rename_i b1
 obtain⟨b2,hb2⟩:∃ b2,bk=b2:=⟨_,rfl⟩
 rw[hb2]
 clear hb2 bk
 repeat (first|refine walk ?_|(refine jg ?_;(try intro F);(first|(apply Zag (h:=fun w' hw _=>ZiB Ar Az Al As cr cz cl cs a w' (hA.up hw) hnz);rfl;rintro v O' ⟨bm,mk,rfl,rfl,hk,hkd,hkl⟩)|(apply Zag (h:=fun w' hw _=>Zgn Ar Az Al As cr cz cl cs a w' (hA.up hw) hnl);rfl;rintro v O' ⟨bl,ml,rfl,rfl,hl,hld,hll⟩)|(refine bx ?_;intro bk)|(refine stA ?_));refine fin ?_)|(refine jn ?_;(try intro F);(first|(refine bx ?_;intro bk)|(refine stA ?_)|(apply Zae;exact PuA));refine fin ?_)|(apply RD_W;rfl;intro bk))
 have hnm2:=fun w' hw hO=>hnm bm mk w' (Zav.up hA hw) hO hk
 unfold ZcD
 cases hzf:ZaU a a.zones 0 with
 | some pe =>
  obtain⟨pl,e⟩:=pe
  rw[hzf]at hnm2
  have hne:=ZeB a a.zones 0 pl e hzf
  have hne':(!decide (e=0))=true:=by rw[decide_eq_false hne];rfl
  repeat (first|(apply RL_pu;rfl;exact Zvu)|(apply RD_Q;rfl;rfl;decide +kernel;rfl;rfl;exact QyLnkB1)|refine walk1 ?_|(refine jg ?_;(try intro F);(first|(refine Za1 (fun w' hw hO=>hnm2 w' hw (hO.of (A := .mp bm mk) (by repeat' constructor))) ?_)|(refine bx ?_;intro bk)|(refine stA ?_));first|refine⟨_,EndsA,QFLnkB1,?_⟩|refine fin ?_)|(refine jn ?_;(try intro F);(first|(refine bx ?_;intro bk)|(refine stA ?_)|(apply Zae;first|exact Zvu|exact PuA));first|refine⟨_,EndsA,QFLnkB1,?_⟩|refine fin ?_)|(apply RD_W;rfl;intro bk))
  exact rtC
 | none =>
 rw[hzf]at hnm2
 rw[Option.none_or]
 obtain⟨res,hres⟩:∃ res,(Zbj a a.links 0).or (Zbi a a.links 0)=res:=⟨_,rfl⟩
 rw[hres]
 repeat (first|refine walk ?_|(refine jg ?_;(try intro F);(first|(refine Za1 (fun w' hw hO=>hnm2 w' hw (hO.of (A := .mp bm mk) (by repeat' constructor))) ?_)|(refine bx ?_;intro bk)|(refine stA ?_));refine fin ?_)|(refine jn ?_;(try intro F);(first|(refine bx ?_;intro bk)|(refine stA ?_)|(apply Zae;exact PuA));refine fin ?_)|(apply RD_W;rfl;intro bk))
 refine Zao [(1,.pointer (some ⟨b1,0,none⟩)),(2,.pointer (some ⟨b2,0,none⟩)),(4,.map (some bm)),(5,.map (some bl)),(36,.slice Al a.links.length cl),(37,.int .i64 a.links.length)] [.mp bl ml,.mp bm mk,.blk b2 [.int .i64 0,.int .i64 0,.int .i64 0] 131,.blk b1 [.slice Ar a.rules.length cr,.slice Az a.zones.length cz,.slice Al a.links.length cl,.slice As a.shifts.length cs] 32]
  (fun k:Nat=>[(38,.int .i64 k)]) (fun _=>[]) (fun k=>k<=a.links.length/\(Zbj a (a.links.drop k) k).or (Zbi a a.links 0)=res) (fun k=>a.links.length - k) 0 SFA SOA ⟨Nat.zero_le _,hres⟩ ?_
 rintro k ⟨hkl',hi⟩
 repeat (first|refine Zdz ?_|(refine jn ?_;(try intro F);(refine bx ?_;intro bk);refine fin ?_)|(apply RD_W;rfl;intro bk))
 refine Zaf rfl (fun hc=>?_) (fun hc=>?_)
 ·simp only[decide_eq_true_eq,Int.ofNat_lt]at hc
  obtain⟨hna,hca⟩:=hA.l.rd k _ (List.getElem?_eq_getElem hc)
  have hmem:=List.getElem_mem hc
  rw[Zap hc,Zbj]at hi
  generalize a.links[k]=lk at *
  have hsz:=(hS.ls lk hmem).2
  obtain⟨n1,hv1,hc1⟩:=hk.any lk.name
  obtain⟨n2,hv2,hc2⟩:=hk.any lk.target
  obtain⟨n3,hv3,hc3⟩:=hl.any lk.target
  obtain⟨j,hj⟩:=Zks 0 hmem
  have hv4:=(hl.some hj).1
  rw[hj]at hi
  generalize (Zbu lk.name a.zones 0).isSome=c1 at *
  rw[<- Option.not_isSome,<- Option.not_isSome]at hi
  generalize (Zbu lk.target a.zones 0).isSome=c2 at *
  generalize (Zcm lk.target a.links 0).isSome=c3 at *
  have hzn:=fun w'=>ZlR lk.name (by omega) w'
  generalize ZgU lk.name=zb at *
  cases zb with
  | false =>
   rw[if_pos rfl]at hi
   subst hi
   repeat (first|refine ZnU ?_|(refine jg ?_;(try intro F);(refine bx ?_;intro bk);first|refine⟨_,EndsA,QFLnkB2,?_⟩|refine fin ?_)|(refine jn ?_;(try intro F);(refine bx ?_;intro bk);first|refine⟨_,EndsA,QFLnkB2,?_⟩|refine fin ?_)|(apply RD_W;rfl;intro bk))
   exact rtC
  | true =>
   rw[if_neg (by decide)]at hi
   cases c1 with
   | true =>
    rw[if_pos (.inl rfl)]at hi
    subst hi
    repeat (first|refine ZnU ?_|(refine jg ?_;(try intro F);(refine bx ?_;intro bk);first|refine⟨_,EndsA,QFLnkB2,?_⟩|refine fin ?_)|(refine jn ?_;(try intro F);(refine bx ?_;intro bk);first|refine⟨_,EndsA,QFLnkB2,?_⟩|refine fin ?_)|(apply RD_W;rfl;intro bk))
    exact rtC
   | false =>
    repeat (first|refine ZnU ?_|(refine jg ?_;(try intro F);(refine bx ?_;intro bk);first|refine⟨_,EndsA,QFLnkB2,?_⟩|refine fin ?_)|(refine jn ?_;(try intro F);(refine bx ?_;intro bk);first|refine⟨_,EndsA,QFLnkB2,?_⟩|refine fin ?_)|(apply RD_W;rfl;intro bk))
    refine Zaf rfl (fun h2=>?_) (fun h2=>?_)
    ·simp only[Bool.not_eq_true',decide_eq_false_iff_not]at h2
     rw[if_pos (.inr fun e=>h2 (by simp only[Option.some.injEq]at e;omega))]at hi
     subst hi
     repeat (first|refine Zdz ?_|(refine jn ?_;(try intro F);(refine bx ?_;intro bk);refine fin ?_)|(apply RD_W;rfl;intro bk))
     exact rtC
    ·simp only[Bool.not_eq_false',decide_eq_true_eq]at h2
     rw[if_neg (by rintro(e|e);cases e;exact e (by congr 1;omega))]at hi
     by_cases hcc:c2=false/\c3=false
     ·obtain⟨rfl,rfl⟩:=hcc
      rw[if_pos ⟨rfl,rfl⟩]at hi
      subst hi
      repeat (first|refine Zdz ?_|(refine jn ?_;(try intro F);(refine bx ?_;intro bk);refine fin ?_)|(apply RD_W;rfl;intro bk))
      exact rtC
     ·rw[if_neg (by simpa using hcc)]at hi
      cases c2 with
      | true =>
       repeat (first|refine Zdz ?_|(refine jn ?_;(try intro F);(refine bx ?_;intro bk);refine fin ?_)|(apply RD_W;rfl;intro bk))
       exact⟨k+1,OA,⟨OA,hi⟩,SFA,SOA⟩
      | false =>
       cases c3 with
       | false=>exact absurd ⟨rfl,rfl⟩ hcc
       | true =>
        repeat (first|refine Zdz ?_|(refine jn ?_;(try intro F);(refine bx ?_;intro bk);refine fin ?_)|(apply RD_W;rfl;intro bk))
        exact⟨k+1,OA,⟨OA,hi⟩,SFA,SOA⟩
 ·simp only[decide_eq_false_iff_not,Int.ofNat_lt]at hc
  rw[List.drop_eq_nil_of_le (by omega),Zbj,Option.none_or]at hi
  repeat (first|refine Zdz ?_|(refine jn ?_;(try intro F);(refine bx ?_;intro bk);refine fin ?_)|(apply RD_W;rfl;intro bk))
  clear hc hkl' hres
  refine Zao [(1,.pointer (some ⟨b1,0,none⟩)),(2,.pointer (some ⟨b2,0,none⟩)),(4,.map (some bm)),(5,.map (some bl)),(93,.slice Al a.links.length cl),(94,.int .i64 a.links.length)] [.mp bl ml,.mp bm mk,.blk b2 [.int .i64 0,.int .i64 0,.int .i64 0] 131,.blk b1 [.slice Ar a.rules.length cr,.slice Az a.zones.length cz,.slice Al a.links.length cl,.slice As a.shifts.length cs] 32]
   (fun k:Nat=>[(95,.int .i64 k)]) (fun _=>[]) (fun k=>k<=a.links.length/\Zbi a (a.links.drop k) k=res) (fun k=>a.links.length - k) 0 SFA SOA ⟨Nat.zero_le _,hi⟩ ?_
  clear hi
  rintro k ⟨hkl',hi⟩
  repeat (first|refine Zdz ?_|(refine jn ?_;(try intro F);(refine bx ?_;intro bk);refine fin ?_)|(apply RD_W;rfl;intro bk))
  refine Zaf rfl (fun hc=>?_) (fun hc=>?_)
  ·simp only[decide_eq_true_eq,Int.ofNat_lt]at hc
   obtain⟨hna,hca⟩:=hA.l.rd k _ (List.getElem?_eq_getElem hc)
   rw[Zap hc,Zbi]at hi
   generalize a.links[k]=lk at *
   have hfo:=fun w' h0 h1 h2=>ZiO Ar Az Al As cr cz cl cs a bm bl mk ml lk.name w' h0 h1 h2 hk hl hld hll
   generalize Zbd a (a.links.length+1) [] lk.name=fo at *
   obtain⟨fi,fe⟩:=fo
   dsimp only at hfo hi
   repeat (first|(apply RL_pu;rfl;exact PuI)|(apply RD_Q;rfl;rfl;decide +kernel;rfl;rfl;exact QyI)|refine walk1 ?_|(refine jg ?_;(try intro F);(first|(refine Za1 (fun w' hw hO=>hfo w' (hA.up hw) (hO.of (A := .mp bm mk) (by repeat' constructor)) (hO.of (A := .mp bl ml) (by repeat' constructor))) ?_)|(refine bx ?_;intro bk)|(refine stA ?_));first|refine⟨_,EndsA,QFI,?_⟩|refine fin ?_)|(refine jn ?_;(try intro F);(first|(refine bx ?_;intro bk)|(refine stA ?_)|(apply Zae;first|exact PuI|exact PuA));first|refine⟨_,EndsA,QFI,?_⟩|refine fin ?_)|(apply RD_W;rfl;intro bk))
   refine Zaf rfl (fun h2=>?_) (fun h2=>?_)
   ·simp only[decide_eq_true_eq]at h2
    subst h2
    rw[if_pos rfl]at hi
    subst hi
    repeat (first|refine Zdz ?_|(refine jn ?_;(try intro F);(refine bx ?_;intro bk);refine fin ?_)|(apply RD_W;rfl;intro bk))
    exact rtC
   ·simp only[decide_eq_false_iff_not]at h2
    rw[if_neg h2]at hi
    repeat (first|refine Zdz ?_|(refine jn ?_;(try intro F);(refine bx ?_;intro bk);refine fin ?_)|(apply RD_W;rfl;intro bk))
    exact⟨k+1,OA,⟨OA,hi⟩,SFA,SOA⟩
  ·simp only[decide_eq_false_iff_not,Int.ofNat_lt]at hc
   rw[List.drop_eq_nil_of_le (by omega),Zbi]at hi
   subst hi
   repeat (first|refine Zdz ?_|(refine jn ?_;(try intro F);(refine bx ?_;intro bk);refine fin ?_)|(apply RD_W;rfl;intro bk))
   exact rtC
end Go.Proofs.YtdlmhmmhdbbliaaGreatDoor
