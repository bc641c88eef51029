/- Parts of the proof. -/
import Derived.Test.YtdlmhmmhdbbliaaGreatDoorV40
import Derived.Test.YtdlmhmmhdbbliaaGreatDoorV36
import Derived.Test.YtdlmhmmhdbbliaaGreatDoorV30
import Derived.Test.YtdlmhmmhdbbliaaGreatDoorV28
set_option maxHeartbeats 4000000
set_option linter.unusedVariables false
set_option linter.unusedSimpArgs false
set_option pp.deepTerms true
set_option pp.maxSteps 1000000
namespace Go.Proofs.YtdlmhmmhdbbliaaGreatDoor
open Go Go.RowKit Go.Wk Go.Lib
attribute [local irreducible] W RL Does Zau Zak retQ Calls Pu Stp RD Qy Ay Zaj RW
def UnG (w:World):Prop:=Zal w ⟨4,0,none⟩ [.int .i64 3600,.int .i64 60,.int .i64 1]
theorem UnG.up {w w':World}(h:UnG w)(hb:Bel w.heap.size w w'):UnG w':=Zal.up h hb (Nat.le_refl _)
theorem Zyn {G:Prop}(h:G:=by(first|(apply ZaS;rfl;rfl;rfl)|(apply ZaC;rfl;rfl;rfl)|(apply Zaw;rfl;rfl;rfl)|(apply ZcY;rfl;rfl;exact mE))):G:=h
theorem Zvg {G:Prop}(h:G:=by(first|(apply ZaC;rfl;rfl;first|exact gM|exact gC)|(apply Zaz;rfl;rfl;first|exact n22|exact n58)|(apply ZaS;rfl;rfl;rfl)|(apply ZaC;rfl;rfl;rfl)|(apply Zaw;rfl;rfl;rfl)|(apply ZcY;rfl;rfl;exact mN _ _)|(apply ZcH;rfl;rfl;omega;(rw[ZbM,List.length_cons];omega);rfl)|(apply ZlE;rfl;rfl;omega;(rw[List.length_cons];omega);rfl)|(apply ZdX;exact⟨_,rfl⟩;rfl;exact .inl ⟨rfl,rfl⟩)|(apply Zeq;rfl;first|exact lM2|exact lC2)|(apply ZaT;rfl;rfl;decide;decide))):G:=h
theorem Zvf {G:Prop}(h:G:=by(first|(apply ZaS;rfl;rfl;rfl)|(apply ZaC;rfl;rfl;rfl)|(apply Zaw;rfl;rfl;rfl))):G:=h
theorem Zve {G:Prop}(h:G:=by(first|exact Zvf|(apply Ze3;rfl;rfl;decide;decide;rfl)|(apply ZaT;rfl;rfl;decide;decide)|(apply Pu_loadO1;rfl;first|exact hU 0 _ rfl|exact hU 1 _ rfl|exact hU 2 _ rfl)|(apply ZcQ;rfl;rfl;(constructor <;> omega)))):G:=h
set_option maxHeartbeats 8000000 in
set_option maxRecDepth 20000 in
theorem Zoh (x:Int)(h0 : -359999<=x)(h1:x<=359999)(w:World)(hU:UnG w):Does Tryz.prog 82 [.string (bsL (shL x))] w (fun v O=>v = .tuple #[.int .i64 x,.int .i64 0]/\O=[]):=by
 obtain⟨H,M,C,T,e,hH,hHb,hMb,hCb,hsum,hT⟩:=Zwb h0 h1
 have hA:=hH.dig
 have hlA:=hH.len
 have hhd:=hH.head
 have hpH:=hH.par
 clear hH
 have hx:absI x=if x<0 then -x else x:=rfl
 have hsg:sgL x=if x<0 then [45] else []:=rfl
 rw[e]
 clear e
 generalize dgN H=A at *
 obtain⟨c,A',hcA⟩:∃ c A',A=c::A':=by
  cases A with
  | nil=>simp at hlA
  | cons c A'=>exact⟨c,A',rfl⟩
 have hc:digC c=true:=by
  rw[hcA,List.all_cons,Bool.and_eq_true]at hA
  exact hA.1
 have hc45:decide ((c.toNat:Int)=45)=false:=by
  unfold digC at hc
  simp only[Bool.and_eq_true,decide_eq_true_eq]at hc
  exact decide_eq_false (by omega)
 obtain⟨mi,hmi⟩:∃ mi,decide (x<0)=mi:=⟨_,rfl⟩
 generalize sgL x=S at *
 obtain⟨l,hl⟩:∃ l,S++(A++T)=l:=⟨_,rfl⟩
 have hne:(!decide (bsL l=ByteArray.empty))=true:=by
  have:bsL l≠ByteArray.empty:=fun hh=>by
   have h2:l=[]:=ZoR hh
   rw[<- hl,hcA]at h2
   simp at h2
  rw[decide_eq_false this]
  rfl
 rw[hl]
 obtain⟨c0,hc0⟩:∃ c0,l.getD ((0:Int).toNat) 0=c0:=⟨_,rfl⟩
 have hm0:decide ((c0.toNat:Int)=45)=mi:=by
  rw[<- hmi,<- hc0,<- hl]
  by_cases hn:x<0
  ·rw[hsg,if_pos hn,decide_eq_true hn]
   rfl
  ·rw[hsg,if_neg hn,decide_eq_false hn,hcA]
   exact hc45
 have hl0:1<=l.length:=by rw[<- hl,hcA];simp only[List.length_append,List.length_cons];omega
 have hlT:T.length<=6:=by
  rcases hT with⟨rfl,_⟩|⟨rfl,_⟩|rfl <;> simp[dig2]
 have hAT:(A++T).length=A.length+T.length:=List.length_append
 have hl1:mi=true->l.drop ((1:Int).toNat)=A++T:=fun h=>by
  rw[<- hl,hsg,if_pos (by rw[h]at hmi;exact of_decide_eq_true hmi)]
  rfl
 have hl2:mi=false->l=A++T:=fun h=>by
  rw[<- hl,hsg,if_neg (by rw[h]at hmi;exact of_decide_eq_false hmi)]
  rfl
 clear hsg hc45 hc
 refine Zaa Tryz.func82 rfl rfl rfl rfl ?_
 repeat (first|refine und ?_|(apply RL_pu;rfl;(first|(apply ZbW;rfl;rfl;exact hne)|(apply ZcH;rfl;rfl;omega;(rw[ZbM];omega);exact hc0)|(apply Zaw;rfl;rfl;exact hm0)))|(refine js ?_;(refine bx ?_;intro bk))|refine walk1 ?_)
 generalize bk=b
 refine Zbx (fun fr' O'=>Sub [(4,.pointer (some ⟨b,0,none⟩)),(5,.bool mi)] fr'/\SubO [.blk b [.string (bsL (A++T))] 9] O') ?_ ?_
 ·refine Zaf rfl (fun h=>?_) (fun h=>?_)
  ·have h3:=hl1 h
   repeat (first|(apply RL_pu;rfl;(apply ZlE;rfl;rfl;omega;omega;exact h3))|(refine js ?_;(refine bx ?_;intro bk))|refine walk1 ?_)
   exact⟨rfl,SFA,SOA⟩
  ·have h3:=hl2 h
   rw[h3]
   repeat (first|(refine js ?_;(refine bx ?_;intro bk))|refine walk ?_)
   exact⟨rfl,SFA,SOA⟩
 rintro fr' O' ⟨hfr,hO⟩
 refine thenQ_n ?_
 refine Zb0 hfr hO ?_
 clear hfr hO fr' O' hne hm0 hc0 hl hl0 hl1 hl2
 repeat (first|(refine js ?_;(refine bx ?_;intro bk))|refine ZhQ ?_)
 generalize bk=b7
 have hT3:A.length=3\/hdNo digC T := .inr (by
  rcases hT with⟨rfl,_⟩|⟨rfl,_⟩|rfl
  ·exact hdNo.nil _
  ·exact hdNo.cons (by decide) _
  ·exact hdNo.cons (by decide) _)
 obtain⟨q,hq⟩:∃ q,decide ((1:Int)<(A.length:Nat))=q:=⟨_,rfl⟩
 have hcd:A.getD ((0:Int).toNat) 0=c:=by rw[hcA];rfl
 have hz:q=true->decide ((c.toNat:Int)=48)=false:=fun h=>by
  have h4:=hhd.resolve_left (by rw[h]at hq;have:=of_decide_eq_true hq;omega)
  rw[hcA]at h4
  refine decide_eq_false fun h5=>h4 ?_
  have:c=48:=UInt8.toNat_inj.1 (by show c.toNat=48;omega)
  rw[this]
  rfl
 have mE:decide (bsL []=ByteArray.empty)=true:=rfl
 have mN:∀ (u:UInt8) (l:List UInt8),decide (bsL (u::l)=ByteArray.empty)=false:=fun u l=>decide_eq_false fun h=>by
  have:=ZoR (show bsL (u::l)=bsL [] from h)
  cases this
 have gM:decide (59<M)=false:=decide_eq_false (by omega)
 have gC:decide (59<C)=false:=decide_eq_false (by omega)
 obtain⟨dM1,dM2,_⟩:=Zi7 (n:=M) (by omega) (by omega)
 obtain⟨dC1,dC2,_⟩:=Zi7 (n:=C) (by omega) (by omega)
 have lM:(dig2 M).length=2:=rfl
 have lC:(dig2 C).length=2:=rfl
 have lM2:((dig2 M).length:Int)=2:=rfl
 have lC2:((dig2 C).length:Int)=2:=rfl
 have n22:(!decide ((2:Int)=2))=false:=rfl
 have n58:(!decide (((58:UInt8).toNat:Int)=58))=false:=rfl
 have k1:=fun R wr=>Zgy b 2 (dig2 M) [] dM1 (by omega) (by decide) (.inl lM) (by decide) R wr
 have k2:=fun R wr=>Zgy b 2 (dig2 M) (58::dig2 C) dM1 (by omega) (by decide) (.inl lM) (by rw[List.length_cons,lC];decide) R wr
 have k3:=fun R wr=>Zgy b 2 (dig2 C) [] dC1 (by omega) (by decide) (.inl lC) (by decide) R wr
 rw[List.append_nil]at k1 k3
 refine Zbx (fun fr' O'=>Sub [(4,.pointer (some ⟨b,0,none⟩)),(5,.bool mi),(7,.pointer (some ⟨b7,0,none⟩))] fr'/\SubO [.blk b [.string (bsL [])] 9,.blk b7 [.int .i64 H,.int .i64 M,.int .i64 C] 208] O') ?_ ?_
 ·refine W_block (Zh5 4 (Zbw ?_))
  cases q
  all_goals
   repeat (first|refine und ?_|(apply RL_pu;rfl;(first|(apply ZdX;exact⟨_,rfl⟩;rfl;exact .inl ⟨rfl,rfl⟩)|(apply Zeq;rfl;rfl)|(apply ZcH;rfl;rfl;omega;(rw[ZbM];omega);exact hcd)|(apply ZaC;rfl;rfl;exact hq)|(apply Zaw;rfl;rfl;exact hz rfl)|(apply ZaS;rfl;rfl;rfl)|(apply ZaC;rfl;rfl;rfl)|(apply Zaw;rfl;rfl;rfl)|(apply ZaT;rfl;rfl;decide;decide)))|(refine js ?_;(first|(apply ZbG (f:=123) (us:=[]) (vs:=[.int .i64 3]) (cs:=[.pointer (some ⟨b,0,none⟩)]) (h:=Zgy b 3 A T hA (by omega) (by decide) hT3 (by omega) _ w);rfl;rfl;exact .cons (by repeat' constructor) (.refl _);rintro v O' ⟨rfl,rfl⟩)|(refine Zac (fun w' _=>Zk3 A H hpH (by omega) w') ?_)|(refine bx ?_;intro bk)))|refine walk1 ?_)
   refine Zbw ?_
  all_goals
   refine Zb0 (fr':=[(28,.int .i64 (0+1)),(7,.pointer (some ⟨b7,0,none⟩)),(6,.func (.func 123) #[] #[.pointer (some ⟨b,0,none⟩)]),(4,.pointer (some ⟨b,0,none⟩)),(5,.bool mi)]) (O':=[.blk b [.string (bsL T)] 9,.blk b7 [.int .i64 H,.int .i64 0,.int .i64 0] 208]) SFA SOA ?_
   clear hz hq hcd
   rcases hT with⟨rfl,rfl,rfl⟩|⟨rfl,rfl⟩|rfl
   ·repeat (first|refine und ?_|(apply RL_pu;rfl;exact Zyn)|(refine js ?_;(refine bx ?_;intro bk))|refine walk1 ?_)
    exact⟨rfl,SFA,SOA⟩
   ·repeat (first|refine und ?_|(apply RL_pu;rfl;exact Zvg)|(refine js ?_;(first|(apply ZbG (f:=123) (us:=[]) (vs:=[.int .i64 2]) (cs:=[.pointer (some ⟨b,0,none⟩)]) (h:=k1 _ w);rfl;rfl;exact .cons (by repeat' constructor) (.refl _);rintro v O' ⟨rfl,rfl⟩)|(refine Zac (fun w' _=>Zk3 (dig2 M) M dM2 (by rw[lM];decide) w') ?_)|(refine bx ?_;intro bk)))|refine walk1 ?_)
    refine Zbw ?_
    repeat (first|refine und ?_|(apply RL_pu;rfl;exact Zyn)|(refine js ?_;(refine bx ?_;intro bk))|refine walk1 ?_)
    exact⟨rfl,SFA,SOA⟩
   ·repeat (first|refine und ?_|(apply RL_pu;rfl;exact Zvg)|(refine js ?_;(first|(apply ZbG (f:=123) (us:=[]) (vs:=[.int .i64 2]) (cs:=[.pointer (some ⟨b,0,none⟩)]) (h:=k2 _ w);rfl;rfl;exact .cons (by repeat' constructor) (.refl _);rintro v O' ⟨rfl,rfl⟩)|(refine Zac (fun w' _=>Zk3 (dig2 M) M dM2 (by rw[lM];decide) w') ?_)|(refine bx ?_;intro bk)))|refine walk1 ?_)
    refine Zbw ?_
    repeat (first|refine und ?_|(apply RL_pu;rfl;exact Zvg)|(refine js ?_;(first|(apply ZbG (f:=123) (us:=[]) (vs:=[.int .i64 2]) (cs:=[.pointer (some ⟨b,0,none⟩)]) (h:=k3 _ w);rfl;rfl;exact .cons (by repeat' constructor) (.refl _);rintro v O' ⟨rfl,rfl⟩)|(refine Zac (fun w' _=>Zk3 (dig2 C) C dC2 (by rw[lC];decide) w') ?_)|(refine bx ?_;intro bk)))|refine walk1 ?_)
    refine Zbw ?_
    repeat (first|refine und ?_|(apply RL_pu;rfl;exact Zvf)|(refine js ?_;(refine bx ?_;intro bk))|refine walk1 ?_)
    exact⟨rfl,SFA,SOA⟩
 rintro fr' O' ⟨hfr,hO⟩
 refine thenQ_n ?_
 refine Zb0 hfr hO ?_
 clear hfr hO fr' O' k1 k2 k3 hT3
 have hfin:(if mi=true then -(H*3600+M*60+C) else H*3600+M*60+C)=x:=by
  rw[<- hsum,hx]
  by_cases hn:x<0
  ·rw[if_pos hn,if_pos (by rw[<- hmi,decide_eq_true hn])]
   omega
  ·rw[if_neg hn,if_neg (by rw[<- hmi,decide_eq_false hn];decide)]
 have hmz:mi=true->decide (0+H*3600+M*60+C*1=0)=false:=fun h=>by
  refine decide_eq_false fun hh=>?_
  rw[h]at hmi
  have:=of_decide_eq_true hmi
  rw[if_pos this]at hx
  omega
 have hbig:decide (604799<0+H*3600+M*60+C*1)=false:=decide_eq_false (by omega)
 repeat (first|(refine js ?_;(refine bx ?_;intro bk))|refine ZhQ ?_)
 refine Zbx (fun fr' O'=>Sub [(4,.pointer (some ⟨b,0,none⟩)),(5,.bool mi),(13,.int .i64 (0+H*3600+M*60+C*1))] fr'/\SubO [.blk b [.string (bsL [])] 9] O') ?_ ?_
 ·refine W_block (Zh5 4 (Zbw ?_))
  repeat (first|refine und ?_|(apply RL_pu;rfl;exact Zve)|(refine js ?_;(refine bx ?_;intro bk))|refine walk1 ?_)
  refine Zbw ?_
  repeat (first|refine und ?_|(apply RL_pu;rfl;exact Zve)|(refine js ?_;(refine bx ?_;intro bk))|refine walk1 ?_)
  refine Zbw ?_
  repeat (first|refine und ?_|(apply RL_pu;rfl;exact Zve)|(refine js ?_;(refine bx ?_;intro bk))|refine walk1 ?_)
  refine Zbw ?_
  repeat (first|refine und ?_|(apply RL_pu;rfl;exact Zvf)|(refine js ?_;(refine bx ?_;intro bk))|refine walk1 ?_)
  exact⟨rfl,SFA,SOA⟩
 rintro fr' O' ⟨hfr,hO⟩
 refine thenQ_n ?_
 refine Zb0 hfr hO ?_
 clear hfr hO fr' O'
 have mE2:(!decide (bsL []=ByteArray.empty))=false:=rfl
 obtain⟨y,hy⟩:∃ y,0+H*3600+M*60+C*1=y:=⟨_,rfl⟩
 rw[show H*3600+M*60+C=y by omega]at hfin
 rw[hy]at hmz hbig ⊢
 have hyb:0<=y/\y<=400000:=by omega
 clear hT hy
 cases mi with
 | true =>
  have hmz:=hmz rfl
  rw[if_pos rfl]at hfin
  repeat (first|refine und ?_|(apply RL_pu;rfl;(first|(apply ZbW;rfl;rfl;exact mE2)|(apply Zaw;rfl;rfl;exact hmz)|(apply ZaC;rfl;rfl;exact hbig)|(apply Zeo;rfl;(constructor <;> omega))))|(refine js ?_;(refine bx ?_;intro bk))|refine walk1 ?_)
  exact ret_2 _ _ [] (.tmp rfl) (.tmp rfl) .nil ⟨by rw[hfin],rfl⟩
 | false =>
  rw[if_neg (by decide)]at hfin
  repeat (first|refine und ?_|(apply RL_pu;rfl;(first|(apply ZbW;rfl;rfl;exact mE2)|(apply ZaC;rfl;rfl;exact hbig)))|(refine js ?_;(refine bx ?_;intro bk))|refine walk1 ?_)
  exact ret_2 _ _ [] (.tmp rfl) (.tmp rfl) .nil ⟨by rw[hfin],rfl⟩
end Go.Proofs.YtdlmhmmhdbbliaaGreatDoor
set_option pp.deepTerms true
set_option pp.maxSteps 1000000
namespace Go.Proofs.YtdlmhmmhdbbliaaGreatDoor
open Go Go.RowKit Go.Wk Go.Lib
attribute [local irreducible] W RL Does Zau Zak retQ Calls Pu Stp RD Qy Ay Zaj
theorem Zd5 (b:Nat)(x:Int)(h0 : -359999<=x)(h1:x<=359999)(R':List UInt8)(hR:hdNo secC R')(hl:R'.length<=500)(wr:World)(hU:UnG wr)(R:List It) :
  Zaj Tryz.prog 44 [.pointer (some ⟨b,0,none⟩)] wr (rdI b (shL x++R')::R) (fun v O=>v = .int .i64 x/\O=rdI b R'::R):=by
 have hs:=(ZsH (x:=x) (by omega) (by omega)).1
 have hln:=(Zd8 h0 h1).2
 obtain⟨t1,t2⟩:=ZjZ hR hs
 have c1:=fun R2 wr2=>Ze9 b (shL x++R') (45::58::ZbY) secC ZyT (by decide) (by decide) (by rw[List.length_append];omega) R2 wr2
 rw[t1,t2]at c1
 have c2:=fun w' (hw:Bel wr.heap.size wr w')=>Zoh x h0 h1 w' (hU.up hw)
 clear t1 t2 hs
 generalize shL x++R'=l at *
 generalize shL x=s at *
 have e0:(!decide ((0:Int)=0))=false:=rfl
 refine ZaG Tryz.func44 rfl rfl rfl rfl ?_
 repeat (first|refine und ?_|(apply RL_pu;rfl;(first|(apply Pu_nilCheck;rfl)|(apply Zaz;rfl;rfl;exact e0)))|(refine js ?_;(first|(apply Zam (h:=c1 _ wr);rfl;exact .cons (by repeat' constructor) (.refl _);rintro v O' ⟨rfl,rfl⟩)|(refine Zac c2 ?_)))|refine walk1 ?_)
 exact ret_1 _ _ (.tmp rfl) STA ⟨rfl,rfl⟩
theorem Zus (l:List UInt8)(n:Int)(h:Lib.atoi l=some n)(hl:l.length<=18)(w:World):Does Tryz.prog 125 [.string (bsL l)] w (fun v O=>v = .tuple #[.int .i64 n,.nilIface]/\O=[]) :=
 ZbF ((Any.strconv_Atoi ZBA (bsL l) n (by rw[ZbM];exact hl) h w).mono fun e w' ⟨he,t,hw⟩=>⟨he,by rw[hw];exact Go.Joins.below_bytesWorld _ _ _ _ (Nat.le_refl _)⟩)
set_option maxRecDepth 20000 in
theorem Zg5 (b:Nat)(n:Int)(h0:0<=n)(h1:n<1000)(R':List UInt8)(hR:hdNo digC R')(hl:R'.length<=500)(wr:World)(hT:PowT wr)(R:List It) :
  Zaj Tryz.prog 84 [.pointer (some ⟨b,0,none⟩)] wr (rdI b (dgN n++R')::R) (fun v O=>v = .int .i64 n/\O=rdI b R'::R):=by
 have hd:=Zb2 h0 h1
 have hln:=hd.len
 obtain⟨t1,t2⟩:=ZjZ hR hd.dig
 have c1:=fun R2 wr2=>Ze9 b (dgN n++R') ZbY digC ZyW (by decide) (by decide) (by rw[List.length_append];omega) R2 wr2
 rw[t1,t2]at c1
 have c2:=fun w'=>Zus (dgN n) n hd.ato (by omega) w'
 have c3:=fun w' (hw:Bel wr.heap.size wr w')=>ZtC n h0 h1 w' (hT.up hw)
 clear t1 t2 hd
 generalize dgN n++R'=l at *
 generalize dgN n=s at *
 have e0:(!decide (bsL s=bsL s))=false:=by rw[decide_eq_true rfl];rfl
 refine ZaG Tryz.func84 rfl rfl rfl rfl ?_
 repeat (first|refine und ?_|(apply RL_pu;rfl;(first|(apply Pu_nilCheck;rfl)|(apply ZbW;rfl;rfl;exact e0)|(apply ZdX;exact⟨_,rfl⟩;rfl;exact .inl ⟨rfl,rfl⟩)))|(refine js ?_;(first|(apply Zam (h:=c1 _ wr);rfl;exact .cons (by repeat' constructor) (.refl _);rintro v O' ⟨rfl,rfl⟩)|(refine Zac (fun w' _=>c2 w') ?_)|(refine Zac c3 ?_)))|refine walk1 ?_)
 exact ret_1 _ _ (.tmp rfl) STA ⟨rfl,rfl⟩
theorem ZAD {n:Int}(h0:0<=n)(h1:n<1000)(T:List UInt8):hdNo (fun b=>decide (b=74)) (dgN n++T)/\hdNo (fun b=>decide (b=77)) (dgN n++T):=by
 have hd:=Zb2 h0 h1
 obtain⟨c,D,hD⟩:∃ c D,dgN n=c::D:=by
  cases hD:dgN n with
  | nil=>have:=hd.len;rw[hD]at this;simp at this
  | cons c D=>exact⟨c,D,rfl⟩
 have hc:digC c=true:=by
  have:=hd.dig
  rw[hD,List.all_cons,Bool.and_eq_true]at this
  exact this.1
 have h:=Zm6 c
 rw[hc,Bool.true_and,Bool.or_eq_false_iff,Bool.or_eq_false_iff,Bool.or_eq_false_iff]at h
 rw[hD]
 exact⟨hdNo.cons h.1.1.2 _,hdNo.cons h.1.2 _⟩
def Aft (R':List UInt8):Prop:=R'=[]\/∃ r,R'=44::r
theorem Aft.no {R':List UInt8}(h:Aft R'){f:UInt8->Bool}(hf:f 44=false):hdNo f R':=by
 rcases h with rfl|⟨r,rfl⟩
 ·exact hdNo.nil _
 ·exact hdNo.cons hf _
set_option maxHeartbeats 8000000 in
set_option maxRecDepth 20000 in
theorem Zi9 (b:Nat)(d:ZbI)(h:DtOk d)(R':List UInt8)(hR:Aft R')(hl:R'.length<=400)(wr:World)(hT:PowT wr)(hU:UnG wr)(R:List It) :
  Zaj Tryz.prog 47 [.pointer (some ⟨b,0,none⟩)] wr (rdI b (dtL d++R')::R) (fun v O=>v = .agg d.enc.toArray/\O=rdI b R'::R):=by
 obtain⟨h1,h2⟩:=h
 obtain⟨_,h3⟩:=Zb4 h1
 clear h1
 have hs:=(Zd8 h2.1 h2.2).2
 have e:dtL d=(if d.kind=1 then 74::dgN d.day else if d.kind=3 then 77::dgN d.month++46::dgN d.week++46::dgN d.day else dgN d.day)++if d.sec=7200 then [] else 47::shL d.sec:=rfl
 rw[e]
 clear e
 obtain⟨k,dd,m,wk,s⟩:=d
 dsimp only at *
 -- what follows the day
 obtain⟨X,hX⟩:∃ X,(if s=7200 then ([]:List UInt8) else 47::shL s)++R'=X:=⟨_,rfl⟩
 have hXl:X.length<=420:=by
  rw[<- hX,List.length_append]
  split
  ·simp only[List.length_nil];omega
  ·simp only[List.length_cons];omega
 have hXd:hdNo digC X:=by
  rw[<- hX]
  split
  ·exact hR.no (by decide)
  ·exact hdNo.cons (by decide) _
 have c4:=fun R2 wr2 (hw:PowT wr2)=>Zg5 b dd (by omega) (by omega) X hXd (by omega) wr2 hw R2
 have ld:=(Zb2 (n:=dd) (by omega) (by omega)).len
 have hdn:=ZAD (n:=dd) (by omega) (by omega) X
 generalize dgN dd=D at *
 refine ZaG Tryz.func47 rfl rfl rfl rfl ?_
 repeat (first|(refine js ?_;(refine bx ?_;intro bk))|refine ZhQ ?_)
 rename_i b2
 generalize bk=b3
 refine Zbx (fun fr' O'=>Sub [(0,.pointer (some ⟨b,0,none⟩)),(2,.pointer (some ⟨b2,0,none⟩)),(3,.pointer (some ⟨b3,0,none⟩))] fr'/\SubO (rdI b (D++X) :: .blk b3 [.int .i64 k,.int .i64 0,.int .i64 m,.int .i64 wk,.int .i64 7200] 39 :: .blk b2 [.int .i64 0,.int .i64 0,.int .i64 0,.int .i64 0,.int .i64 0] 39::R) O') ?_ ?_
 ·rcases h3 with⟨rfl,a1,a2,rfl,rfl⟩|⟨rfl,a1,a2,rfl,rfl⟩|⟨rfl,a1,a2,a3⟩
  ·have e1:((if (1:Int)=1 then 74::D else if (1:Int)=3 then 77::dgN 0++46::dgN 0++46::D else D)++if s=7200 then [] else 47::shL s)++R'=74::(D++X):=by rw[if_pos rfl,<- hX];simp
   rw[e1]
   have c1:=fun R2 wr2=>ZdO b 74 (D++X) R2 wr2
   clear e1 hX
   generalize (74:UInt8)::(D++X)=l1 at *
   generalize D++X=l0 at *
   repeat (first|(refine js ?_;(first|(apply Zam (h:=c1 _ wr);rfl;exact .cons (by repeat' constructor) (.refl _);rintro v O' ⟨rfl,rfl⟩)|(refine bx ?_;intro bk)))|refine walk ?_)
   exact⟨rfl,SFA,STA⟩
  ·have e1:((if (2:Int)=1 then 74::D else if (2:Int)=3 then 77::dgN 0++46::dgN 0++46::D else D)++if s=7200 then [] else 47::shL s)++R'=D++X:=by rw[if_neg (by decide),if_neg (by decide),<- hX];simp
   rw[e1]
   have c1:=fun R2 wr2=>ZdP b 74 (D++X) hdn.1 R2 wr2
   have c2:=fun R2 wr2=>ZdP b 77 (D++X) hdn.2 R2 wr2
   clear e1 hX hdn
   generalize D++X=l0 at *
   repeat (first|(refine js ?_;(first|(apply Zam (h:=c1 _ wr);rfl;exact .cons (by repeat' constructor) (.refl _);rintro v O' ⟨rfl,rfl⟩)|(apply Zam (h:=c2 _ wr);rfl;exact .cons .here (.refl _);rintro v O' ⟨rfl,rfl⟩)|(refine bx ?_;intro bk)))|refine walk ?_)
   exact⟨rfl,SFA,STA⟩
  ·have e1:((if (3:Int)=1 then 74::D else if (3:Int)=3 then 77::dgN m++46::dgN wk++46::D else D)++if s=7200 then [] else 47::shL s)++R'=77::(dgN m++46::(dgN wk++46::(D++X))):=by rw[if_neg (by decide),if_pos rfl,<- hX];simp
   rw[e1]
   have lm:=(Zb2 (n:=m) (by omega) (by omega)).len
   have lw:=(Zb2 (n:=wk) (by omega) (by omega)).len
   have c1:=fun R2 wr2=>ZdP b 74 (77::(dgN m++46::(dgN wk++46::(D++X)))) (hdNo.cons (by decide) _) R2 wr2
   have c2:=fun R2 wr2=>ZdO b 77 (dgN m++46::(dgN wk++46::(D++X))) R2 wr2
   have c3:=fun R2 (wr2:World)=>Zg5 b m (by omega) (by omega) (46::(dgN wk++46::(D++X))) (hdNo.cons (by decide) _) (by simp only[List.length_append,List.length_cons];omega) wr hT R2
   have c5:=fun R2 wr2=>Zc3 b 46 (dgN wk++46::(D++X)) R2 wr2
   have c6:=fun R2 (wr2:World)=>Zg5 b wk (by omega) (by omega) (46::(D++X)) (hdNo.cons (by decide) _) (by simp only[List.length_append,List.length_cons];omega) wr hT R2
   have c7:=fun R2 wr2=>Zc3 b 46 (D++X) R2 wr2
   clear e1 hX
   generalize (77:UInt8)::(dgN m++46::(dgN wk++46::(D++X)))=l1 at *
   generalize dgN m++46::(dgN wk++46::(D++X))=l2 at *
   generalize (46:UInt8)::(dgN wk++46::(D++X))=l3 at *
   generalize dgN wk++46::(D++X)=l4 at *
   generalize (46:UInt8)::(D++X)=l5 at *
   generalize D++X=l6 at *
   repeat (first|(refine js ?_;(first|(apply Zam (h:=c1 _ wr);rfl;exact .cons (by repeat' constructor) (.refl _);rintro v O' ⟨rfl,rfl⟩)|(apply Zam (h:=c2 _ wr);rfl;exact .cons .here (.refl _);rintro v O' ⟨rfl,rfl⟩)|(apply Zam (h:=c3 _ wr);rfl;exact .cons .here (.refl _);rintro v O' ⟨rfl,rfl⟩)|(apply Zam (h:=c5 _ wr);rfl;exact .cons .here (.refl _);rintro v O' ⟨rfl,rfl⟩)|(apply Zam (h:=c6 _ wr);rfl;exact .cons .here (.refl _);rintro v O' ⟨rfl,rfl⟩)|(apply Zam (h:=c7 _ wr);rfl;exact .cons .here (.refl _);rintro v O' ⟨rfl,rfl⟩)|(refine bx ?_;intro bk)))|refine walk ?_)
   exact⟨rfl,SFA,STA⟩
 rintro fr' O' ⟨hfr,hO⟩
 refine thenQ_n ?_
 refine Zb0 hfr hO ?_
 clear hfr hO fr' O' hdn h3
 have c4:=fun R2 (wr2:World)=>c4 R2 wr hT
 by_cases h7:s=7200
 ·rw[if_pos h7,List.nil_append]at hX
  have c8:=fun R2 wr2=>ZdP b 47 R' (hR.no (by decide)) R2 wr2
  subst hX
  generalize D++R'=l0 at *
  repeat (first|(refine js ?_;(first|(apply Zam (h:=c4 _ wr);rfl;exact .cons .here (.refl _);rintro v O' ⟨rfl,rfl⟩)|(apply Zam (h:=c8 _ wr);rfl;exact .cons .here (.refl _);rintro v O' ⟨rfl,rfl⟩)|(refine bx ?_;intro bk)))|refine walk ?_)
  rw[h7]
  exact ret_1 _ _ (.cellB rfl (by repeat' constructor) rfl rfl) STA ⟨rfl,rfl⟩
 ·rw[if_neg h7]at hX
  have c8:=fun R2 wr2=>ZdO b 47 (shL s++R') R2 wr2
  have c9:=fun R2 (wr2:World)=>Zd5 b s h2.1 h2.2 R' (hR.no (by decide)) (by omega) wr hU R2
  rw[show(47:UInt8)::(shL s++R')=X from hX]at c8
  clear hX
  generalize shL s++R'=l1 at *
  generalize D++X=l0 at *
  repeat (first|(refine js ?_;(first|(apply Zam (h:=c4 _ wr);rfl;exact .cons .here (.refl _);rintro v O' ⟨rfl,rfl⟩)|(apply Zam (h:=c8 _ wr);rfl;exact .cons .here (.refl _);rintro v O' ⟨rfl,rfl⟩)|(apply Zam (h:=c9 _ wr);rfl;exact .cons .here (.refl _);rintro v O' ⟨rfl,rfl⟩)|(refine bx ?_;intro bk)))|refine walk ?_)
  exact ret_1 _ _ (.cellB rfl (by repeat' constructor) rfl rfl) STA ⟨rfl,rfl⟩
theorem ZAi {n:List UInt8}(hn:namL n=true)(T:List UInt8):hdNo secC (quL n++T)/\quL n++T≠[]:=by
 have hq:=ZfW hn
 rcases ZsQ hn (R:=[]) (hdNo.nil _) with⟨_,e,_,_⟩|⟨ho,e,_,_,_⟩
 ·rw[List.append_nil]at e
  rw[e]
  exact⟨hdNo.cons (by decide) _,fun h=>by cases h⟩
 ·rw[List.append_nil,List.append_nil]at e
  rw[e]at hq ⊢
  unfold namL at hn
  simp only[Bool.and_eq_true]at hn
  cases n with
  | nil=>simp at hq
  | cons c n =>
   refine⟨hdNo.cons ?_ _,fun h=>by cases h⟩
   have h1:=List.all_eq_true.1 hn.2 c List.mem_cons_self
   rw[List.any_cons,Bool.or_eq_false_iff]at ho
   have h2:=Zc7 (fun b=>Zb9 b&&!othC b&&secC b) (fun _=>false) (by decide +kernel) c
   rw[h1,ho.1]at h2
   exact h2
theorem ZBm (l:List UInt8)(w:World)(c:Bool)(h:(match l with|a::_=>decide (a=44)|[]=>false)=c):Does Tryz.prog 45 [.string (bsL l),.string (bsL [44])] w (fun v O=>v = .bool c/\O=[]):=by
 have:=Zmi (bsL l) (bsL [44]) w
 rw[ZgF,ZgF]at this
 have e:List.isPrefixOf [44] l=c:=by
  rw[<- h]
  cases l with
  | nil=>rfl
  | cons a l =>
   rw[Bool.eq_iff_iff,decide_eq_true_eq]
   simp[List.isPrefixOf]
   exact⟨fun h=>h.symm,fun h=>h.symm⟩
 rw[e]at this
 exact this
theorem Zvd {G:Prop}(h:G:=by(first|(apply Pu_nilCheck;rfl)|(apply ZbW;rfl;rfl;exact mE)|(apply Zaz;rfl;rfl;exact b0))):G:=h
set_option maxHeartbeats 8000000 in
set_option maxRecDepth 20000 in
theorem Zmm (p:ZaQ)(hp:PxOk p)(hs:PxSm p)(w:World)(hT:PowT w)(hU:UnG w):Does Tryz.prog 14 [.string (bsL (prL p))] w (fun v O=>v = .tuple #[.agg p.enc.toArray,.int .i64 0]/\O=[]):=by
 have hl:=ZsX hp hs
 have ck:=fun w'=>Zfb p hp w'
 have ho:=ZdB hp.so
 have hn1:=hp.std
 have hq1:=ZfW hn1
 have hsd:=hp.dst
 have b0:(!decide ((0:Int)=0))=false:=rfl
 have mE:(!decide (bsL []=ByteArray.empty))=false:=rfl
 unfold prL at hl ⊢
 obtain⟨u,hu⟩:∃ u,-p.stdOff=u:=⟨_,rfl⟩
 have hu2:p.stdOff = -u:=by omega
 rw[hu]at hl ⊢
 have hub : -89999<=u/\u<=89999:=by omega
 have hsh:=ZsH (x:=u) (by omega) (by omega)
 by_cases hd:p.dst=ByteArray.empty
 ·rw[if_pos hd,List.append_nil]at hl ⊢
  have c1:=fun(b:Nat) R2 wr2=>Zf0 b p.std.data.toList (shL u) hn1 hsh.2.2.1 (by rw[List.length_append]at hl;omega) R2 wr2
  have c2:=fun(b:Nat) R2 (wr2:World)=>Zd5 b u (by omega) (by omega) [] (hdNo.nil _) (by decide) w hU R2
  rw[List.append_nil]at c2
  have hpe:p=⟨p.std,-u,ByteArray.empty,0,dt0,dt0⟩:=by
   rcases hsd with h|⟨h,_⟩
   ·rw[<- hu2];exact h
   ·rw[hd]at h;exact absurd h (by decide)
  have b1:decide ((100:Int)<((quL p.std.data.toList++shL u).length:Nat))=false:=decide_eq_false (by omega)
  obtain⟨n1,hnl⟩:∃ n1,p.std.data.toList=n1:=⟨_,rfl⟩
  have hsb:p.std=bsL n1:=by rw[<- hnl];rfl
  rw[hnl]at c1 b1 ⊢
  rw[hsb]at hpe
  clear hl hsh hq1 hn1 hsd hp hs hu hu2 ho hd hnl hsb
  subst hpe
  have hwr:IntKind.i64.wrap (0 - u) = -u:=by
   rw[show(0:Int) - u = -u by omega]
   exact ZbB (by omega)
  replace ck:∀ w',Does Tryz.prog 12 [.agg #[.string (bsL n1),.int .i64 (-u),.string ByteArray.empty,.int .i64 0,.int .i64 0,.int .i64 0,.int .i64 0,.int .i64 0,.int .i64 0,.int .i64 0,.int .i64 0,.int .i64 0,.int .i64 0,.int .i64 0]] w' (fun v O=>v = .int .i64 0/\O=[]):=ck
  generalize shL u=s1 at *
  generalize quL n1++s1=l1 at *
  show Does _ _ _ w (fun v O=>v = .tuple #[.agg #[.string (bsL n1),.int .i64 (-u),.string ByteArray.empty,.int .i64 0,.int .i64 0,.int .i64 0,.int .i64 0,.int .i64 0,.int .i64 0,.int .i64 0,.int .i64 0,.int .i64 0,.int .i64 0,.int .i64 0],.int .i64 0]/\O=[])
  refine Zaa Tryz.func14 rfl rfl rfl rfl ?_
  repeat (first|refine und ?_|(apply RL_pu;rfl;(first|(apply Pu_nilCheck;rfl)|(apply Zeq;rfl;rfl)|(apply ZaC;rfl;rfl;exact b1)))|(refine js ?_;(refine bx ?_;intro bk))|refine walk1 ?_)
  rename_i b2 b4
  generalize bk=b5
  have c1:=c1 b4
  have c2:=c2 b4
  repeat (first|refine und ?_|(apply RL_pu;rfl;exact Zvd)|(refine js ?_;(first|(apply Zam (h:=c1 _ w);rfl;(first|exact .cons .here (.refl _)|exact .cons (.there .here) (.refl _)|exact .cons (.there (.there .here)) (.refl _));rintro v O' ⟨rfl,rfl⟩)|(apply Zam (h:=c2 _ w);rfl;(first|exact .cons .here (.refl _)|exact .cons (.there .here) (.refl _)|exact .cons (.there (.there .here)) (.refl _));rintro v O' ⟨rfl,rfl⟩)|(refine bx ?_;intro bk)))|refine walk1 ?_)
  rw[hwr]
  repeat (first|(apply RL_pu;rfl;(apply Zaz;rfl;rfl;exact b0))|(refine js ?_;(first|(refine Zac (fun w' _=>ck w') ?_)|(refine bx ?_;intro bk)))|refine walk1 ?_)
  exact rtC
 ·rw[if_neg hd]at hl ⊢
  rcases hsd with h|⟨hn2,ho2,-,-⟩
  ·exact absurd (congrArg ZaQ.dst h) hd
  rcases hs with h|⟨ds,df⟩
  ·exact absurd h hd
  have hov:=ZdB ho2
  have hq2:=ZfW hn2
  have ls:=Zlm ds
  have lf:=Zlm df
  obtain⟨v,hv⟩:∃ v,-p.dstOff=v:=⟨_,rfl⟩
  have hv2:p.dstOff = -v:=by omega
  have hvb : -89999<=v/\v<=89999:=by omega
  rw[hv]at hl ⊢
  have hshv:=ZsH (x:=v) (by omega) (by omega)
  have lu:=(Zd8 (x:=u) (by omega) (by omega)).2
  have lv:=(Zd8 (x:=v) (by omega) (by omega)).2
  obtain⟨sm,hsm⟩:∃ sm,p.start=sm:=⟨_,rfl⟩
  obtain⟨fn,hfn⟩:∃ fn,p.fin=fn:=⟨_,rfl⟩
  obtain⟨n1,hnl⟩:∃ n1,p.std.data.toList=n1:=⟨_,rfl⟩
  obtain⟨n2,hnl2⟩:∃ n2,p.dst.data.toList=n2:=⟨_,rfl⟩
  have hsb:p.std=bsL n1:=by rw[<- hnl];rfl
  have hsb2:p.dst=bsL n2:=by rw[<- hnl2];rfl
  have hpe:p=⟨bsL n1,-u,bsL n2,-v,sm,fn⟩:=by rw[<- hsb,<- hsb2,<- hsm,<- hfn,<- hu2,<- hv2]
  have hn2':namL n2=true:=by rw[<- hnl2];exact hn2
  have hn1':namL n1=true:=by rw[<- hnl];exact hn1
  rw[hsb2]at hd
  rw[hnl]at hl hq1
  rw[hnl2]at hl hq2
  rw[hsm]at ds ls
  rw[hfn]at df lf
  rw[hnl,hnl2,hsm,hfn]
  have hif:(p.dstOff=p.stdOff+3600)=(-v = -u+3600):=by rw[hv2,hu2]
  simp only[hif]at hl ⊢
  clear hif hsb hsb2 hsm hfn hnl hnl2 hn1 hn2 ho ho2 hp hu hu2 hv
  clear hv2
  subst hpe
  obtain⟨O,hO⟩:∃ O,(if -v = -u+3600 then ([]:List UInt8) else shL v)=O:=⟨_,rfl⟩
  rw[hO]at hl ⊢
  have hOl:O.length<=10:=by
   rw[<- hO];split
   ·simp
   ·exact lv
  obtain⟨T,hT0⟩:∃ T,(44:UInt8)::(dtL sm++44::dtL fn)=T:=⟨_,rfl⟩
  have hTl:T.length<=70:=by
   rw[<- hT0]
   simp only[List.length_cons,List.length_append]
   omega
  have hl1:quL n1++shL u++(quL n2++O++44::dtL sm++44::dtL fn)=quL n1++(shL u++(quL n2++(O++T))):=by rw[<- hT0];simp
  rw[hl1]at hl ⊢
  have hqn:=ZAi hn2' (O++T)
  have c1:=fun(b:Nat) R2 wr2=>Zf0 b n1 (shL u++(quL n2++(O++T))) hn1' (hsh.2.2.1.app hsh.2.1 _) (by simp only[List.length_append];omega) R2 wr2
  have c2:=fun(b:Nat) R2 (wr2:World)=>Zd5 b u (by omega) (by omega) (quL n2++(O++T)) hqn.1 (by simp only[List.length_append];omega) w hU R2
  have hlet:hdNo letC (O++T):=by
   rw[<- hO];split
   ·rw[<- hT0];exact hdNo.cons (by decide) _
   ·exact hshv.2.2.1.app hshv.2.1 _
  have c3:=fun(b:Nat) R2 wr2=>Zf0 b n2 (O++T) hn2' hlet (by simp only[List.length_append];omega) R2 wr2
  have c4:=fun(b:Nat) R2 wr2=>Zc3 b 44 (dtL sm++44::dtL fn) R2 wr2
  rw[hT0]at c4
  have c5:=fun(b:Nat) R2 (wr2:World)=>Zi9 b sm ds (44::dtL fn) (.inr ⟨_,rfl⟩) (by simp only[List.length_cons];omega) w hT hU R2
  have c6:=fun(b:Nat) R2 wr2=>Zc3 b 44 (dtL fn) R2 wr2
  have c7:=fun(b:Nat) R2 (wr2:World)=>Zi9 b fn df [] (.inl rfl) (by simp) w hT hU R2
  rw[List.append_nil]at c7
  have hb1:decide ((100:Int)<((quL n1++(shL u++(quL n2++(O++T)))).length:Nat))=false:=decide_eq_false (by omega)
  have hne:(!decide (bsL (quL n2++(O++T))=ByteArray.empty))=true:=by
   rw[decide_eq_false]
   ·rfl
   ·intro h
    exact hqn.2 (ZoR (b:=[]) h)
  have hde:decide (bsL n2=ByteArray.empty)=false:=decide_eq_false hd
  have hpr:(match O++T with|a::_=>decide (a=44)|[]=>false)=decide (-v = -u+3600):=by
   by_cases h : -v = -u+3600
   ·rw[if_pos h]at hO
    rw[<- hO,<- hT0,decide_eq_true h]
    rfl
   ·rw[if_neg h]at hO
    rw[<- hO,decide_eq_false h]
    have h4:=hshv.2.2.2
    have h5:=hshv.2.1
    revert h4 h5
    cases shL v with
    | nil=>intro _ h5;exact absurd rfl h5
    | cons a l=>intro h4 _;exact h4 a rfl
  have cp:=fun w'=>ZBm (O++T) w' _ hpr
  have cO:O=[]\/O=shL v:=by rw[<- hO];split <;> simp
  have c8:=fun(b:Nat) R2 (wr2:World)=>Zd5 b v (by omega) (by omega) T (by rw[<- hT0];exact hdNo.cons (by decide) _) (by omega) w hU R2
  have hwr:IntKind.i64.wrap (0 - u) = -u:=by
   rw[show(0:Int) - u = -u by omega]
   exact ZbB (by omega)
  have hwv:IntKind.i64.wrap (0 - v) = -v:=by
   rw[show(0:Int) - v = -v by omega]
   exact ZbB (by omega)
  obtain⟨k1,d1,m1,w1,s1⟩:=sm
  obtain⟨k2,d2,m2,w2,s2⟩:=fn
  replace ck:∀ w',Does Tryz.prog 12 [.agg #[.string (bsL n1),.int .i64 (-u),.string (bsL n2),.int .i64 (-v),.int .i64 k1,.int .i64 d1,.int .i64 m1,.int .i64 w1,.int .i64 s1,.int .i64 k2,.int .i64 d2,.int .i64 m2,.int .i64 w2,.int .i64 s2]] w' (fun v O=>v = .int .i64 0/\O=[]):=ck
  show Does _ _ _ w (fun r O=>r = .tuple #[.agg #[.string (bsL n1),.int .i64 (-u),.string (bsL n2),.int .i64 (-v),.int .i64 k1,.int .i64 d1,.int .i64 m1,.int .i64 w1,.int .i64 s1,.int .i64 k2,.int .i64 d2,.int .i64 m2,.int .i64 w2,.int .i64 s2],.int .i64 0]/\O=[])
  simp only[ZbI.enc]at c5 c7
  clear hq1 hq2 hsh hshv hd hn1' hn2' hlet hl ls lf lu lv ds df hqn hl1 hpr
  generalize dtL ⟨k1,d1,m1,w1,s1⟩++(44:UInt8)::dtL ⟨k2,d2,m2,w2,s2⟩=l5 at *
  generalize (44:UInt8)::dtL ⟨k2,d2,m2,w2,s2⟩=l6 at *
  generalize dtL ⟨k2,d2,m2,w2,s2⟩=l7 at *
  have hcs:(-v = -u+3600/\O=[])\/(¬ -v = -u+3600/\O=shL v):=by
   by_cases h : -v = -u+3600
   ·rw[if_pos h]at hO;exact .inl ⟨h,hO.symm⟩
   ·rw[if_neg h]at hO;exact .inr ⟨h,hO.symm⟩
  clear hO cO hT0 hTl hOl
  generalize hl4:O++T=l4 at *
  generalize quL n2++l4=l3 at *
  generalize shL u++l3=l2 at *
  generalize quL n1++l2=l1 at *
  refine Zaa Tryz.func14 rfl rfl rfl rfl ?_
  repeat (first|refine und ?_|(apply RL_pu;rfl;(first|(apply Pu_nilCheck;rfl)|(apply Zeq;rfl;rfl)|(apply ZaC;rfl;rfl;exact hb1)))|(refine js ?_;(refine bx ?_;intro bk))|refine walk1 ?_)
  rename_i b2 b4
  generalize bk=b5
  have c1:=c1 b4
  have c2:=c2 b4
  have c3:=c3 b4
  have c4:=c4 b4
  have c5:=c5 b4
  have c6:=c6 b4
  have c7:=c7 b4
  have c8:=c8 b4
  repeat (first|refine und ?_|(apply RL_pu;rfl;(first|(apply Pu_nilCheck;rfl)|(apply ZbW;rfl;rfl;exact hne)))|(refine js ?_;(first|(apply Zam (h:=c1 _ w);rfl;(first|exact .cons .here (.refl _)|exact .cons (.there .here) (.refl _)|exact .cons (.there (.there .here)) (.refl _));rintro v O' ⟨rfl,rfl⟩)|(apply Zam (h:=c2 _ w);rfl;(first|exact .cons .here (.refl _)|exact .cons (.there .here) (.refl _)|exact .cons (.there (.there .here)) (.refl _));rintro v O' ⟨rfl,rfl⟩)|(refine bx ?_;intro bk)))|refine walk1 ?_)
  rw[hwr]
  repeat (first|refine und ?_|(apply RL_pu;rfl;(first|(apply Pu_nilCheck;rfl)|(apply ZcY;rfl;rfl;exact hde)))|(refine js ?_;(first|(apply Zam (h:=c3 _ w);rfl;(first|exact .cons .here (.refl _)|exact .cons (.there .here) (.refl _)|exact .cons (.there (.there .here)) (.refl _));rintro v O' ⟨rfl,rfl⟩)|(refine bx ?_;intro bk)))|refine walk1 ?_)
  rcases hcs with⟨h,rfl⟩|⟨h,rfl⟩
  ·rw[decide_eq_true h]at cp
   rw[List.nil_append]at hl4
   subst hl4
   rw[h]at ck ⊢
   repeat (first|refine und ?_|(apply RL_pu;rfl;exact PuPxV6)|(refine js ?_;(first|(refine Zac (fun w' _=>cp w') ?_)|(refine bx ?_;intro bk)))|refine walk1 ?_)
   repeat (first|refine und ?_|(apply RL_pu;rfl;exact Zvd)|(refine js ?_;(first|(apply Zam (h:=c4 _ w);rfl;(first|exact .cons .here (.refl _)|exact .cons (.there .here) (.refl _)|exact .cons (.there (.there .here)) (.refl _));rintro v O' ⟨rfl,rfl⟩)|(apply Zam (h:=c5 _ w);rfl;(first|exact .cons .here (.refl _)|exact .cons (.there .here) (.refl _)|exact .cons (.there (.there .here)) (.refl _));rintro v O' ⟨rfl,rfl⟩)|(apply Zam (h:=c6 _ w);rfl;(first|exact .cons .here (.refl _)|exact .cons (.there .here) (.refl _)|exact .cons (.there (.there .here)) (.refl _));rintro v O' ⟨rfl,rfl⟩)|(apply Zam (h:=c7 _ w);rfl;(first|exact .cons .here (.refl _)|exact .cons (.there .here) (.refl _)|exact .cons (.there (.there .here)) (.refl _));rintro v O' ⟨rfl,rfl⟩)|(refine Zac (fun w' _=>ck w') ?_)|(refine bx ?_;intro bk)))|refine walk1 ?_)
   exact rtC
  ·rw[decide_eq_false h]at cp
   rw[hl4]at c8
   repeat (first|refine und ?_|(apply RL_pu;rfl;exact PuPxV6)|(refine js ?_;(first|(refine Zac (fun w' _=>cp w') ?_)|(apply Zam (h:=c8 _ w);rfl;(first|exact .cons .here (.refl _)|exact .cons (.there .here) (.refl _)|exact .cons (.there (.there .here)) (.refl _));rintro v O' ⟨rfl,rfl⟩)|(refine bx ?_;intro bk)))|refine walk1 ?_)
   rw[hwv]
   repeat (first|refine und ?_|(apply RL_pu;rfl;exact Zvd)|(refine js ?_;(first|(apply Zam (h:=c4 _ w);rfl;(first|exact .cons .here (.refl _)|exact .cons (.there .here) (.refl _)|exact .cons (.there (.there .here)) (.refl _));rintro v O' ⟨rfl,rfl⟩)|(apply Zam (h:=c5 _ w);rfl;(first|exact .cons .here (.refl _)|exact .cons (.there .here) (.refl _)|exact .cons (.there (.there .here)) (.refl _));rintro v O' ⟨rfl,rfl⟩)|(apply Zam (h:=c6 _ w);rfl;(first|exact .cons .here (.refl _)|exact .cons (.there .here) (.refl _)|exact .cons (.there (.there .here)) (.refl _));rintro v O' ⟨rfl,rfl⟩)|(apply Zam (h:=c7 _ w);rfl;(first|exact .cons .here (.refl _)|exact .cons (.there .here) (.refl _)|exact .cons (.there (.there .here)) (.refl _));rintro v O' ⟨rfl,rfl⟩)|(refine Zac (fun w' _=>ck w') ?_)|(refine bx ?_;intro bk)))|refine walk1 ?_)
   exact rtC
end Go.Proofs.YtdlmhmmhdbbliaaGreatDoor
namespace Go.Proofs.YtdlmhmmhdbbliaaGreatDoor
open Go Go.RowKit Go.Wk
instance : EqE Tryz.prog 45 Zdq Zdq.enc where
 h r s w:=by
  unfold Zdq.enc
  simp[go_sem,ZdH]
  rcases r with⟨_,_,_⟩
  rcases s with⟨_,_,_⟩
  simp only[Zmn,Result.ok.injEq,and_true]
  rw[Bool.eq_iff_iff]
  simp[and_assoc]
 g:=by kernel_rfl
theorem ZrZ {a:Zai}(h:accD a=none):ZcD a=none:=by
 unfold accD at h
 simp only[Option.or_eq_none_iff]at h
 exact h.2.2.2.1
theorem ZfB {s:Zai}:∀ (l:List Za5) (i:Nat),ZaU s l i=none->∀ (j:Nat) (z:Za5),l[j]?=some z->Zbu z.name s.zones 0=some (i+j)
 | [],_,_,j,z,h=>by simp at h
 | x::l,i,h,j,z,hz=>by
  rw[ZaU]at h
  by_cases h1:ZgU x.name=false
  ·rw[if_pos h1]at h;cases h
  rw[if_neg h1]at h
  by_cases h2:Zbu x.name s.zones 0≠some i
  ·rw[if_pos h2]at h;cases h
  rw[if_neg h2]at h
  rcases j with _|j
  ·simp only[List.getElem?_cons_zero,Option.some.injEq]at hz
   subst hz
   exact Decidable.not_not.1 h2
  ·simp only[List.getElem?_cons_succ]at hz
   rw[ZfB l (i+1) h j z hz,Option.some.injEq]
   omega
theorem ZqP {a:Zai}(h:accD a=none){i:Nat}{z:Za5}(hi:a.zones[i]?=some z):ZkS a z.name=(((i:Nat):Int),0):=by
 have hl:=ZrZ h
 unfold ZcD at hl
 rw[Option.or_eq_none_iff]at hl
 have hf:=ZfB _ _ hl.1 i z hi
 unfold ZkS
 rw[h]
 dsimp only
 rw[Zbd,hf]
 dsimp only
 rw[Nat.zero_add]
theorem mn23 (d:DD23):MnOk (ZbD d):=Zze (Zkg d) (ZcC d)
theorem ZAq (d:DD23):(ZbD d).zones.length+(ZbD d).links.length<=12:=by
 have h1:=ZiA d
 have h2:=Zmz d
 obtain⟨z1,z3⟩:=Ze7 d.zones
 omega
end Go.Proofs.YtdlmhmmhdbbliaaGreatDoor
