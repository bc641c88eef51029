/- Parts of the proof. -/
import Derived.Test.YtpipekfmecikmaaGreatDoorA24
import Derived.Test.YtpipekfmecikmaaGreatDoorA26
set_option maxHeartbeats 0
set_option linter.all false
namespace Go.Proofs.YtpipekfmecikmaaGreatDoor
open Go Go.RowKit Go.Wk Tryz
attribute [local irreducible] W RL Does Zaq Zai retQ Calls Pu Stp RD Qy Ay Zaj
theorem ZqM {G:Prop}(h:G:=by(first|(apply Zav;rfl;rfl;first|exact b1|exact b4)|(apply Zau;rfl;rfl;first|exact b2|exact b3))):G:=h
theorem ZdH (a b:Int)(d : -4000000000000000000<=a/\a<=4000000000000000000)(e : -4000000000000000000<=b/\b<=4000000000000000000)(w:World):Does prog 169 [.int .i64 a,.int .i64 b] w (fun v O=>v = .tuple #[.int .i64 (a - b),.bool true]/\O=[]):=by
 refine Zaa func169 rfl rfl rfl rfl ?_
 have b2:decide (a < -9223372036854775808+b)=false:=dF_ (by omega)
 have b4:decide (9223372036854775807+b<a)=false:=dF_ (by omega)
 by_cases h:0<b
 ·have b1:decide (0<b)=true:=dT_ h
  have b3:decide (b<0)=false:=dF_ (by omega)
  repeat (first|(apply RL_pu;rfl;exact ZqM)|refine walk1 ?_)
  exact rtB
 have b1:decide (0<b)=false:=dF_ h
 by_cases c:b<0
 ·have b3:decide (b<0)=true:=dT_ c
  repeat (first|(apply RL_pu;rfl;exact ZqM)|refine walk1 ?_)
  exact rtB
 ·have b3:decide (b<0)=false:=dF_ c
  repeat (first|(apply RL_pu;rfl;exact ZqM)|refine walk1 ?_)
  exact rtB
theorem Zrr (a b:Int)(d : -4000000000000000000<=a/\a<=4000000000000000000)(c:0<b/\b<=4000000000000000000)(w:World):Does prog 153 [.int .i64 a,.int .i64 b] w (fun v O=>v = .tuple #[.int .i64 (a+b),.bool true]/\O=[]):=by
 refine Zaa func153 rfl rfl rfl rfl ?_
 have b4:decide (9223372036854775807 - b<a)=false:=dF_ (by omega)
 have b1:decide (0<b)=true:=dT_ c.1
 have b2:decide (b<0)=false:=dF_ (by omega)
 have b3:=b2
 repeat (first|(apply RL_pu;rfl;exact ZqM)|refine walk1 ?_)
 exact rtB
theorem Zbb.ev_bd {l:List DRule}(h:Zbb l){e:Zac}(c:EvOf l e):(-5000000000<=e.nominal/\e.nominal<=70000000000000000)/\0<=e.rule/\e.rule<l.length:=by
 obtain⟨j,r,y,a,b⟩:=c
 have f:=h.rule r (List.mem_of_getElem? a)
 have f0:=f.f0
 have d:=(Zbb.least h.rule).2
 obtain⟨_,k,m,n,_⟩:=ZaT b
 obtain⟨g1,g2⟩:=Zf9 d b
 have o:=(List.getElem?_eq_some_iff.1 a).1
 have g:=Za9 1850 (y - 1850).toNat
 rw[show(1850:Int)+((y - 1850).toNat:Int)=y by omega]at g
 have i:=Za9 (y+1) (2000000001 - (y+1)).toNat
 rw[show y+1+((2000000001 - (y+1)).toNat:Int)=2000000001 by omega]at i
 have p:jan1 1850 = -43829:=by decide
 have k1:jan1 2000000001<=800000000000:=by unfold jan1;omega
 refine⟨by omega,by omega,by omega⟩
theorem Zbb.sz {l:List DRule}(h:Zbb l):∀ r∈l,r.from_<=4611686018427387904/\-4611686018427387904<=r.to:=fun r b=>by
 have a:=h.rule r b
 have c:=a.f0
 have d:=a.f1
 have e:=a.ft
 omega
theorem Zmn (A:Option Addr)(c:Nat)(l:List DRule)(n:Int)(w:World)(b:RdSl w A c DRule.enc 11 l)(d:l.length<=1000000)(a:Zbb l)(e : -40000000000000000<=n/\n<=4611686018427387904) :
  Does prog 46 [.slice A l.length c,.int .i64 n] w (fun v O=>v = .tuple #[evV (befD l n),.bool (befD l n).isSome]/\O=[]):=by
 have:=Zrp A c l n w b d a.sz (by omega)
 rwa[Zww a.rule (Zbb.least a.rule).2 e.1]at this
set_option maxHeartbeats 0 in
theorem ZsQ (A:Option Addr)(c:Nat)(l:List DRule)(i:Nat)(r:DRule)(w:World)(f:RdSl w A c DRule.enc 11 l)(s:l[i]?=some r)(H : -2000000000<=r.from_/\r.from_<=4611686018427387904) :
  Does prog 266 [.slice A l.length c,.int .i64 i] w (fun v O=>v = .tuple #[evV (fiIn (Zae l) r i (max r.from_ (-2000000000)) 9),.bool (fiIn (Zae l) r i (max r.from_ (-2000000000)) 9).isSome]/\O=[]):=by
 have K:i<l.length:=(List.getElem?_eq_some_iff.1 s).1
 have J:=f.le
 have x:=f.cap
 simp only[maxLen]at x
 have z:=fun(y:Int) w' (M:Bel w.heap.size w w')=>Zf2 A c l i y r w' (f.up M) s
 obtain⟨hna,hca⟩:=f.rd i _ s
 generalize Zae l=L at *
 rw[show max r.from_ (-2000000000)=r.from_ by omega]
 obtain⟨R,q⟩:∃ R,fiIn L r i r.from_ 9=R:=⟨_,rfl⟩
 rw[q]
 have B:∀ y m,fiIn L r i y (m+1)=match onR L r i y with
  | some e=>some e
  | none=>fiIn L r i (y+1) m:=fun y m=>rfl
 generalize onR L r (i:Int)=on at *
 clear f s
 obtain⟨Q,fr,S,N,⟨E,F,dd⟩,⟨cs,D⟩,sv,le⟩:=r
 change Zat w _ [.string Q,.int .i64 fr,.int .i64 S,.int .i64 N,.int .i64 E,.int .i64 F,.int .i64 dd,.int .i64 cs,.int .i64 D,.int .i64 sv,.string le]at hca
 dsimp only at H q
 have C:decide (fr < -2000000000)=false:=dF_ (by omega)
 refine Zaa func266 rfl rfl rfl rfl ?_
 repeat (first|(apply RL_pu;rfl;(first|exact PuI|(apply Zau;rfl;rfl;exact C)))|(refine js ?_;(refine bx ?_;intro d))|refine walk1 ?_)
 refine Zah [(0,.slice A l.length c),(1,.int .i64 i),(4,.pointer (some ⟨d,0,none⟩)),(6,.int .i64 fr)] [.blk d [.int .i64 0,.int .i64 0,.int .i64 0] 91] (fun g:Nat × Int=>[(7,.int .i64 g.2)]) (fun _=>[]) (fun g=>g.1<=9/\g.2=fr+g.1/\fiIn L _ i g.2 (9 - g.1)=R) (fun g=>9 - g.1) (0,fr) SFA SOA ⟨Nat.zero_le _,by simp,q⟩ ?_
 clear q
 rintro⟨j,y⟩ ⟨hj,hy,hi2⟩
 dsimp only at hj hy hi2 ⊢
 repeat (first|(refine js ?_;(refine bx ?_;intro d))|refine walk ?_)
 refine Zaf rfl (fun u=>?_) (fun u=>?_)
 ·have I:j<9:=by have:=of_decide_eq_true u;omega
  rw[show 9 - j=(8 - j)+1 by omega,B]at hi2
  have t:=z y
  generalize on y=o at *
  rcases o with _|⟨ey,er,en⟩
  ·simp only[evV,Zac.enc,dEv0,Option.isSome]at t hi2
   repeat (first|(refine js ?_;(first|(refine Zab t ?_)|(refine bx ?_;intro d)))|refine walk ?_)
   exact⟨(j+1,y+1),OA,⟨OA,by dsimp only;omega,by dsimp only;rw[show 9 - (j+1)=8 - j by omega];exact hi2⟩,SFA,SOA⟩
  ·simp only[evV,Zac.enc,Option.isSome]at t hi2
   subst hi2
   repeat (first|(refine js ?_;(first|(refine Zab t ?_)|(refine bx ?_;intro d)))|refine walk ?_)
   exact rtC
 ·obtain rfl:j=9:=by have:=of_decide_eq_false u;omega
  obtain rfl:none=R:=hi2
  repeat (first|(refine js ?_;(refine bx ?_;intro d))|refine walk ?_)
  exact rtC
theorem ZDd {G:Prop}(h:G:=by(exact PuI)):G:=h
theorem ZCv {G:Prop}(h:G:=by first|(apply Qy_y;rfl;exact ZDd)|exact QyA):G:=h
theorem ZCD {G:Prop}(h:G:=by repeat (exact QF.nil)):G:=h
theorem ZcP (A:Option Addr)(c:Nat)(l:List DRule)(e:Zac)(w:World)(a:RdSl w A c DRule.enc 11 l)(f:0<=e.rule/\e.rule<l.length) :
  Does prog 155 [.slice A l.length c,.agg e.enc.toArray] w (fun v O=>v=stV (behS l e)/\O=[]):=by
 obtain⟨r,d⟩:∃ r,l[e.rule.toNat]?=some r:=⟨_,List.getElem?_eq_getElem (by omega)⟩
 have g:=a.le
 have b:=a.cap
 simp only[maxLen]at b
 unfold behS
 rw[Zhh d]
 obtain⟨hna,hca⟩:=a.rd _ _ d
 obtain⟨y,q,n⟩:=e
 dsimp only at f d hca
 show Does _ _ [_,.agg #[.int .i64 y,.int .i64 q,.int .i64 n]] w _
 refine Zaa func155 rfl rfl rfl rfl ?_
 repeat (first|(apply RD_Q;rfl;rfl;decide +kernel;rfl;rfl;exact ZCv)|refine walk1 ?_|(refine jn ?_;(try intro F);(first|(refine bx ?_;intro j)|(refine stA ?_));first|refine⟨_,EndsA,ZCD,?_⟩|refine fin ?_))
 exact ret_1 _ [] (.cellB rfl cS_ rfl rfl) .nil ⟨rfl,rfl⟩
theorem ZBX {l:List DRule}{o:Bool}{a:Int}{e:Zac}{r:DRule}(b:ruE l e=r):fstB l (!o) a none e=if o=true/\r.save=a then none else some e:=by
 unfold fstB
 rw[b,Bool.not_not,Bool.or_false]
 by_cases h:o=true/\r.save=a
 ·rw[if_pos h,if_pos (by rw[h.1,dT_ h.2];rfl)]
 ·rw[if_neg h,if_neg]
  rw[Bool.and_eq_true,decide_eq_true_eq]
  exact h
theorem ZBW {l:List DRule}{o:Bool}{a:Int}{b e:Zac}{r:DRule}(c:ruE l e=r):fstB l (!o) a (some b) e=if (o=true/\r.save=a)\/b.nominal<=e.nominal then some b else some e:=by
 unfold fstB
 dsimp only
 rw[c,Bool.not_not]
 by_cases h:(o=true/\r.save=a)\/b.nominal<=e.nominal
 ·rw[if_pos h,if_pos]
  rw[Bool.or_eq_true,Bool.and_eq_true,decide_eq_true_eq,decide_eq_true_eq]
  exact h
 ·rw[if_neg h,if_neg]
  rw[Bool.or_eq_true,Bool.and_eq_true,decide_eq_true_eq,decide_eq_true_eq]
  exact h
theorem Zvo {G:Prop}(h:G:=by(exact PuI)):G:=h
theorem Zvn {G:Prop}(h:G:=by(first|exact Zvo|(apply Zal;rfl;rfl;exact b1))):G:=h
theorem Zzq {G:Prop}(h:G:=by(first|exact Zvo|(apply Zau;rfl;rfl;exact b2))):G:=h
theorem ZDc {G:Prop}(h:G:=by(first|exact Zvn|(apply Zau;rfl;rfl;exact b2))):G:=h
theorem ZpH {G G':Prop}(k:G')(h:Hold G'->G:=by intro k9;(first|refine und ?_|(apply RL_pu;rfl;exact ZDc)|(refine js ?_;(refine Zab ho ?_))|refine walk1 ?_);exact k9.out):G:=h ⟨k⟩
set_option maxHeartbeats 0 in
theorem Zf0 (A:Option Addr)(c:Nat)(l:List DRule)(d:Bool)(j:Int)(w:World)(H:RdSl w A c DRule.enc 11 l)(hn:l.length<=1000000)(S:∀ r∈l,-2000000000<=r.from_/\r.from_<=4611686018427387904) :
  Does prog 216 [.slice A l.length c,.bool d,.int .i64 j] w (fun v O=>v = .tuple #[evV (fstD l (!d) j),.bool (fstD l (!d) j).isSome]/\O=[]):=by
 have X:=H.le
 have M:=H.cap
 simp only[maxLen]at M
 have z:=fun(i:Nat) (r:DRule) (f:l[i]?=some r) w' (Y:Bel w.heap.size w w')=>ZsQ A c l i r w' (H.up Y) f (S r (List.mem_of_getElem? f))
 have F:∀ (k:Nat) (r:DRule) (e:Zac) (y:Int) (m:Nat),l[k]?=some r->fiIn (Zae l) r k y m=some e->ruE l e=r:=fun k r e y m N W=>by
  obtain⟨y',Z⟩:=ZoM _ _ _ _ _ _ W
  have:=(ZaT Z).2.1
  exact Zhh (by rw[this,Int.toNat_natCast];exact N)
 obtain⟨R,I⟩:∃ R,fstD l (!d) j=R:=⟨_,rfl⟩
 rw[I]
 unfold fstD at I
 have E:∀ (r:DRule) (t:List DRule) (k:Nat),firL (Zae l) (r::t) k=(fiIn (Zae l) r k (max r.from_ (-2000000000)) 9).toList++firL (Zae l) t (k+1):=fun _ _ _=>rfl
 have D:∀ k,firL (Zae l) [] k=[]:=fun _=>rfl
 generalize Zae l=L at *
 refine Zaa func216 rfl rfl rfl rfl ?_
 repeat (first|(refine js ?_;(refine bx ?_;intro s))|refine walk ?_)
 generalize s=b8
 rename_i Q
 refine Zah [(0,.slice A l.length c),(1,.bool d),(2,.int .i64 j),(6,.pointer (some ⟨Q,0,none⟩)),(8,.pointer (some ⟨b8,0,none⟩))] [.blk Q [.int .i64 0,.int .i64 0,.int .i64 0] 91]
  (fun g:BG=>[(10,.int .i64 g.k),(9,.bool g.b.isSome)]) (fun g=>[.blk b8 (evC g.b) 91]) (fun g=>g.k<=l.length/\(firL L (l.drop g.k) g.k).foldl (fstB l (!d) j) g.b=R) (fun g=>l.length - g.k) ⟨0,none⟩ SFA SOA ⟨Nat.zero_le _,I⟩ ?_
 clear I
 rintro⟨k,b⟩ ⟨N,f⟩
 dsimp only at N f ⊢
 repeat (first|(refine js ?_;(refine bx ?_;intro s))|refine walk ?_)
 refine Zaf rfl (fun C=>?_) (fun C=>?_)
 ·simp only[decide_eq_true_eq,Int.ofNat_lt]at C
  have x:=List.getElem?_eq_getElem C
  rw[Zag C,E,List.foldl_append]at f
  obtain⟨hna,hca⟩:=H.rd k _ x
  have ho:=z k _ x
  have B:=fun e=>F k _ e (max l[k].from_ (-2000000000)) 9 x
  generalize l[k]=r at *
  generalize fiIn L r k (max r.from_ (-2000000000)) 9=o at *
  clear z F x E D S
  obtain⟨nm,fr,to,mo,⟨U,V,dd⟩,⟨cs,T⟩,sv,le⟩:=r
  change Zat w _ [.string nm,.int .i64 fr,.int .i64 to,.int .i64 mo,.int .i64 U,.int .i64 V,.int .i64 dd,.int .i64 cs,.int .i64 T,.int .i64 sv,.string le]at hca
  rcases o with _|⟨ey,er,en⟩
  ·simp only[evV,Zac.enc,dEv0,Option.isSome]at ho
   rw[Option.toList,List.foldl_nil]at f
   repeat (first|refine und ?_|(refine js ?_;(first|(refine Zab ho ?_)|(refine bx ?_;intro s)))|refine walk ?_)
   exact⟨⟨k+1,b⟩,OA,⟨OA,f⟩,SFA,SOA⟩
  ·have J:=B _ rfl
   simp only[evV,Zac.enc,Option.isSome]at ho
   rw[Option.toList,List.foldl_cons,List.foldl_nil]at f
   rcases b with _|⟨by_,br,bn⟩
   ·rw[ZBX J]at f
    clear J B
    dsimp only at f
    simp only[evC,Zac.enc,dEv0,Option.isSome]
    cases d with
    | false =>
     rw[if_neg (by simp)]at f
     repeat (first|refine und ?_|(apply RL_pu;rfl;exact Zvo)|(refine js ?_;(first|(refine Zab ho ?_)|(refine bx ?_;intro s)))|refine walk1 ?_)
     exact⟨⟨k+1,some ⟨ey,er,en⟩⟩,OA,⟨OA,f⟩,SFA,SOA⟩
    | true =>
     by_cases u:sv=j
     ·have b1:(!decide (sv=j))=false:=by rw[dT_ u];rfl
      rw[if_pos ⟨rfl,u⟩]at f
      repeat (first|refine und ?_|(apply RL_pu;rfl;exact Zvn)|(refine js ?_;(first|(refine Zab ho ?_)|(refine bx ?_;intro s)))|refine walk1 ?_)
      exact⟨⟨k+1,none⟩,OA,⟨OA,f⟩,SFA,SOA⟩
     ·have b1:(!decide (sv=j))=true:=by rw[dF_ u];rfl
      rw[if_neg (fun h=>u h.2)]at f
      repeat (first|refine und ?_|(apply RL_pu;rfl;exact Zvn)|(refine js ?_;(first|(refine Zab ho ?_)|(refine bx ?_;intro s)))|refine walk1 ?_)
      exact⟨⟨k+1,some ⟨ey,er,en⟩⟩,OA,⟨OA,f⟩,SFA,SOA⟩
   ·rw[ZBW J]at f
    clear J B
    dsimp only at f
    simp only[evC,Zac.enc,Option.isSome]
    by_cases K:bn<=en
    ·have b2:decide (en<bn)=false:=dF_ (by omega)
     rw[if_pos (.inr K)]at f
     cases d with
     | false =>
      repeat (first|refine und ?_|(apply RL_pu;rfl;exact Zzq)|(refine js ?_;(first|(refine Zab ho ?_)|(refine bx ?_;intro s)))|refine walk1 ?_)
      exact⟨⟨k+1,some ⟨by_,br,bn⟩⟩,OA,⟨OA,f⟩,SFA,SOA⟩
     | true =>
      obtain⟨q,b1⟩:∃ q,(!decide (sv=j))=q:=⟨_,rfl⟩
      cases q with
      | false =>
       repeat (first|refine ZpH ?_|(refine js ?_;(refine bx ?_;intro s)))
       exact⟨⟨k+1,some ⟨by_,br,bn⟩⟩,OA,⟨OA,f⟩,SFA,SOA⟩
      | true =>
       repeat (first|refine ZpH ?_|(refine js ?_;(refine bx ?_;intro s)))
       exact⟨⟨k+1,some ⟨by_,br,bn⟩⟩,OA,⟨OA,f⟩,SFA,SOA⟩
    ·have b2:decide (en<bn)=true:=dT_ (by omega)
     cases d with
     | false =>
      rw[if_neg (by rintro(⟨q,_⟩|q);cases q;exact K q)]at f
      repeat (first|refine und ?_|(apply RL_pu;rfl;exact Zzq)|(refine js ?_;(first|(refine Zab ho ?_)|(refine bx ?_;intro s)))|refine walk1 ?_)
      exact⟨⟨k+1,some ⟨ey,er,en⟩⟩,OA,⟨OA,f⟩,SFA,SOA⟩
     | true =>
      by_cases u:sv=j
      ·have b1:(!decide (sv=j))=false:=by rw[dT_ u];rfl
       rw[if_pos (.inl ⟨rfl,u⟩)]at f
       repeat (first|refine ZpH ?_|(refine js ?_;(refine bx ?_;intro s)))
       exact⟨⟨k+1,some ⟨by_,br,bn⟩⟩,OA,⟨OA,f⟩,SFA,SOA⟩
      ·have b1:(!decide (sv=j))=true:=by rw[dF_ u];rfl
       rw[if_neg (by rintro(⟨_,q⟩|q);exact u q;exact K q)]at f
       repeat (first|refine ZpH ?_|(refine js ?_;(refine bx ?_;intro s)))
       exact⟨⟨k+1,some ⟨ey,er,en⟩⟩,OA,⟨OA,f⟩,SFA,SOA⟩
 ·simp only[decide_eq_false_iff_not,Int.ofNat_lt]at C
  rw[List.drop_eq_nil_of_le (by omega),D,List.foldl_nil]at f
  subst f
  rcases b with _|⟨by_,br,bn⟩ <;> simp only[evV,evC,Zac.enc,dEv0,Option.isSome]
  ·repeat (first|(refine js ?_;(refine bx ?_;intro s))|refine walk ?_)
   exact rtC
  ·repeat (first|(refine js ?_;(refine bx ?_;intro s))|refine walk ?_)
   exact rtC
theorem Zzp {G:Prop}(h:G:=by(exact PuI)):G:=h
theorem ZjJ (A:Option Addr)(c:Nat)(l:List DRule)(w:World)(f:RdSl w A c DRule.enc 11 l)(D:l.length<=1000000)(i:Zbb l) :
  Does prog 154 [.slice A l.length c] w (fun v O=>v=stV (iniS l)/\O=[]):=by
 have z:∀ r∈l,-2000000000<=r.from_/\r.from_<=4611686018427387904:=fun r s=>by
  have a:=i.rule r s
  have b:=a.f0
  have x:=a.f1
  omega
 obtain⟨e,C⟩:=Zlf l 0 (firL (Zae l) l 0) none (.inr i.firL_ne)
 have j:EvOf l e:=by
  rcases Ziw _ _ _ _ _ _ C with q|q
  ·cases q
  ·exact Zlg q
 have m:=(i.ev_bd j).2
 obtain⟨r,s⟩:∃ r,l[e.rule.toNat]?=some r:=⟨_,List.getElem?_eq_getElem (by omega)⟩
 have t:ruE l e=r:=Zhh s
 have a:=fun w' (g:Bel w.heap.size w w')=>Zf0 A c l false 0 w' (f.up g) D z
 have b:=fun w' (g:Bel w.heap.size w w')=>Zf0 A c l true r.save w' (f.up g) D z
 change ∀ w',Bel w.heap.size w w'->Does _ _ _ w' (fun v O=>v = .tuple #[evV (fstD l true 0),.bool (fstD l true 0).isSome]/\O=[]) at a
 change ∀ w',Bel w.heap.size w w'->Does _ _ _ w' (fun v O=>v = .tuple #[evV (fstD l false r.save),.bool (fstD l false r.save).isSome]/\O=[]) at b
 have d:=fun w' (g:Bel w.heap.size w w')=>ZcP A c l e w' (f.up g) m
 have y:=fun(o:Zac) (u:0<=o.rule/\o.rule<l.length) w' (g:Bel w.heap.size w w')=>ZcP A c l o w' (f.up g) u
 have p:∀ o,fstD l false r.save=some o->0<=o.rule/\o.rule<l.length:=fun o u=>by
  unfold fstD at u
  rcases Ziw _ _ _ _ _ _ u with q|q
  ·cases q
  ·exact(i.ev_bd (Zlg q)).2
 unfold iniS
 rw[show fstD l true 0=some e from C]at a ⊢
 dsimp only
 rw[t]
 obtain⟨hna,hca⟩:=f.rd _ _ s
 have K:=f.le
 have B:=f.cap
 simp only[maxLen]at B
 generalize fstD l false r.save=o at *
 generalize hbe:behS l e=be at *
 clear i z j hbe C t
 obtain⟨S,R,Q⟩:=e
 obtain⟨U,fr,V,T,⟨M,N,dd⟩,⟨cs,L⟩,sv,le⟩:=r
 obtain⟨E,F⟩:=be
 dsimp only at m s hca b p
 simp only[evV,Zac.enc,Option.isSome]at a d
 refine Zaa func154 rfl rfl rfl rfl ?_
 rcases o with _|⟨oy,or_,on⟩
 ·simp only[evV,Zac.enc,dEv0,Option.isSome,stV]at b d ⊢
  repeat (first|(apply RL_pu;rfl;exact Zzp)|(refine js ?_;(first|(refine Zab a ?_)|(refine Zab b ?_)|(refine Zab d ?_)|(refine bx ?_;intro H)))|refine walk1 ?_)
  exact ret_1 _ [] (.cellB rfl cS_ rfl rfl) .nil ⟨rfl,rfl⟩
 ·have x:=y _ (p _ rfl)
  dsimp only
  generalize behS l ⟨oy,or_,on⟩=bo at *
  obtain⟨I,J⟩:=bo
  simp only[evV,Zac.enc,Option.isSome,stV]at b x ⊢
  repeat (first|(apply RL_pu;rfl;exact Zzp)|(refine js ?_;(first|(refine Zab a ?_)|(refine Zab b ?_)|(refine Zab x ?_)|(refine bx ?_;intro H)))|refine walk1 ?_)
  exact ret_1 _ [] (.cellB rfl cS_ rfl rfl) .nil ⟨rfl,rfl⟩
theorem ZfJ (A:Option Addr)(c:Nat)(l:List DRule)(n:Int)(w:World)(d:RdSl w A c DRule.enc 11 l)(j:l.length<=1000000)(f:Zbb l)(p : -40000000000000000<=n/\n<=4611686018427387904) :
  Does prog 156 [.slice A l.length c,.int .i64 n] w (fun v O=>v=stV (befS l n)/\O=[]):=by
 have a:=fun w' (b:Bel w.heap.size w w')=>Zmn A c l n w' (d.up b) j f p
 have g:=fun w' (b:Bel w.heap.size w w')=>ZjJ A c l w' (d.up b) j f
 unfold befS
 cases hb:befD l n with
 | none =>
  rw[hb]at a
  generalize iniS l=x at *
  obtain⟨q,r⟩:=x
  simp only[evV,Zac.enc,dEv0,Option.isSome,stV]at a g ⊢
  refine Zaa func156 rfl rfl rfl rfl ?_
  repeat (first|(refine js ?_;(first|(refine Zab a ?_)|(refine Zab g ?_)|(refine bx ?_;intro m)))|refine walk ?_)
  exact ret_1 _ [] (.cellB rfl cS_ rfl rfl) .nil ⟨rfl,rfl⟩
 | some e =>
  rw[hb]at a
  have i:=fun w' (b:Bel w.heap.size w w')=>ZcP A c l e w' (d.up b) (f.ev_bd (Zlx hb).1).2
  dsimp only
  generalize behS l e=x at *
  obtain⟨q,r⟩:=x
  obtain⟨u,t,s⟩:=e
  simp only[evV,Zac.enc,Option.isSome,stV]at a i ⊢
  refine Zaa func156 rfl rfl rfl rfl ?_
  repeat (first|(refine js ?_;(first|(refine Zab a ?_)|(refine Zab i ?_)|(refine bx ?_;intro m)))|refine walk ?_)
  exact ret_1 _ [] (.cellB rfl cS_ rfl rfl) .nil ⟨rfl,rfl⟩
theorem Zmq (A:Option Addr)(c:Nat)(l:List DRule)(w:World)(e:RdSl w A c DRule.enc 11 l):Does prog 170 [.slice A l.length c] w (fun v O=>v = .int .i64 (max (Zae l) (-10800))/\O=[]):=by
 have q:=e.le
 have f:=e.cap
 unfold maxLen at f
 generalize hres:Zae l=res
 unfold Zae at hres
 have j:(if res < -10800 then -10800 else res)=max res (-10800):=by split <;> omega
 refine Zaa func170 rfl rfl rfl rfl ?_
 repeat (refine walk ?_)
 refine Zah [(0,.slice A l.length c)] [] (fun g:Nat × Int=>[(3,.int .i64 g.2),(4,.int .i64 g.1)]) (fun _=>[]) (fun g=>g.1<=l.length/\(l.drop g.1).foldl (fun m r=>min m r.save) g.2=res) (fun g=>l.length - g.1) (0,0) SFA SOA ⟨Nat.zero_le _,hres⟩ ?_
 rintro⟨k,m⟩ ⟨hk,hi⟩
 dsimp only at hk hi ⊢
 repeat (refine walk ?_)
 refine Zaf rfl (fun h=>?_) (fun h=>?_)
 ·have d:k<l.length:=by simpa using h
  obtain⟨hna,hca⟩:=e.rd k _ (List.getElem?_eq_getElem d)
  rw[Zag d]at hi
  generalize l[k]=r at *
  obtain⟨y,fr,z,x,⟨t,u,dd⟩,⟨cs,s⟩,sv,le⟩:=r
  simp only[DRule.enc,List.foldl_cons]at hca hi
  repeat (first|(apply RL_pu;rfl;(first|exact PuI|(apply ZfP;rfl;rfl)))|refine walk1 ?_)
  rw[show(if sv<m then sv else m)=min m sv by split <;> omega]
  exact⟨(k+1,min m sv),OA,⟨OA,hi⟩,SFA,.nil⟩
 ·have i:k=l.length:=by
   have:=of_decide_eq_false h
   omega
  subst i
  rw[List.drop_length]at hi
  obtain rfl:m=res:=hi
  repeat (first|(apply RL_pu;rfl;(apply Zdz;rfl;rfl;exact j))|refine walk1 ?_)
  exact rtA
theorem ZDb {G:Prop}(h:G:=by(first|(apply Zau;rfl;rfl;exact b1)|(apply ZbF;rfl;rfl;exact b2)|(apply Zap;rfl;rfl;first|exact b3|exact b4)|exact PuI|(apply Pu_loadO1;rfl;exact hca 8 _ rfl))):G:=h
theorem Zsp {G G':Prop}(k:G')(h:Hold G'->G:=by intro k9;(first|(apply RL_pu;rfl;exact ZDb)|(refine js ?_;(first|(refine Zab hba ?_)|(refine Zab hbf ?_)|(refine Zab (fun w' _=>hs1 w') ?_)|(refine Zab (fun w' _=>hs2 w') ?_)))|refine walk1 ?_);exact k9.out):G:=h ⟨k⟩
set_option maxHeartbeats 0 in
theorem Zhk (A:Option Addr)(c:Nat)(l:List DRule)(e:Zac)(a:Int)(w:World)(f:RdSl w A c DRule.enc 11 l)(M:l.length<=1000000)(b:Zbb l)(E:EvOf l e)(S : -1000000000<=a/\a<=1000000000) :
  Does prog 110 [.slice A l.length c,.agg e.enc.toArray,.int .i64 a] w (fun v O=>v = .int .i64 (Zcc l e a)/\O=[]):=by
 obtain⟨hnb,z⟩:=b.ev_bd E
 obtain⟨r,q⟩:∃ r,l[e.rule.toNat]?=some r:=⟨_,List.getElem?_eq_getElem (by omega)⟩
 have p:ruE l e=r:=Zhh q
 have m:=b.rule r (List.mem_of_getElem? q)
 have j:=m.clk
 have hba:=fun w' (C:Bel w.heap.size w w')=>Zmq A c l w' (f.up C)
 have hbf:=fun w' (C:Bel w.heap.size w w')=>ZfJ A c l e.nominal w' (f.up C) M b (by omega)
 have x:=(b.sv (b.bef e.nominal)).1
 have B:=Zbb.least b.rule
 unfold Zcc
 rw[p]
 obtain⟨hna,hca⟩:=f.rd _ _ q
 have K:=f.le
 have y:=f.cap
 simp only[maxLen]at y
 have L : -10800<=max (Zae l) (-10800)/\max (Zae l) (-10800)<=0:=by omega
 generalize max (Zae l) (-10800)=mx at *
 generalize befS l e.nominal=bs at *
 obtain⟨g,F⟩:=bs
 dsimp only at x
 clear b E p m B f
 obtain⟨J,s,d⟩:=e
 obtain⟨Q,fr,R,N,⟨H,I,dd⟩,⟨cs,i⟩,sv,le⟩:=r
 simp only[ZaL,Bool.and_eq_true,decide_eq_true_eq]at j
 dsimp only at z hnb q hbf j ⊢
 simp only[stV]at hbf
 change Zat w _ [.string Q,.int .i64 fr,.int .i64 R,.int .i64 N,.int .i64 H,.int .i64 I,.int .i64 dd,.int .i64 cs,.int .i64 i,.int .i64 sv,.string le]at hca
 have b1:decide (s<0)=false:=dF_ (by omega)
 have b2:decide ((l.length:Int)<=s)=false:=dF_ (by omega)
 show Does _ _ [_,.agg #[.int .i64 J,.int .i64 s,.int .i64 d],_] w _
 refine Zaa func110 rfl rfl rfl rfl ?_
 by_cases u:i=1
 ·subst u
  have b3:decide ((1:Int)=0)=false:=rfl
  have b4:decide ((1:Int)=1)=true:=rfl
  have hs1:=fun w'=>ZdH d mx (by omega) (by omega) w'
  have hs2:=fun w'=>ZdH (d - mx) a (by omega) (by omega) w'
  rw[if_pos rfl]
  repeat (first|refine Zsp ?_|(refine js ?_;(refine bx ?_;intro D)))
  exact rtA
 rw[if_neg u]
 have b4:decide (i=1)=false:=dF_ u
 by_cases t:i=0
 ·subst t
  have b3:decide ((0:Int)=0)=true:=rfl
  have hs1:=fun w'=>ZdH d g (by omega) (by omega) w'
  have hs2:=fun w'=>ZdH (d - g) a (by omega) (by omega) w'
  rw[if_pos rfl]
  repeat (first|refine Zsp ?_|(refine js ?_;(refine bx ?_;intro D)))
  exact rtA
 ·have b3:decide (i=0)=false:=dF_ t
  have hs1:=fun w'=>ZdH d 0 (by omega) (by omega) w'
  have hs2:=hs1
  rw[if_neg t]
  repeat (first|refine Zsp ?_|(refine js ?_;(refine bx ?_;intro D)))
  exact rtA
structure RaG where
 j:Nat
 n:Int
theorem Zzo {G:Prop}(h:G:=by(apply Zbl;rfl;rfl;exact b1)):G:=h
set_option maxHeartbeats 0 in
theorem Zrt (A:Option Addr)(c:Nat)(l:List DRule)(d t:Int)(w:World)(E:RdSl w A c DRule.enc 11 l)(K:l.length<=1000000)(B:Zbb l)(Y : -1000000000<=d/\d<=1000000000)(ht : -39000000000000000<=t/\t<=1000000000000000000) :
  Does prog 102 [.slice A l.length c,.int .i64 d,.int .i64 t] w (fun v O=>v=stV (atS l d t)/\O=[]):=by
 have M:=fun w'=>Zrr t 259200 (by omega) (by decide) w'
 have F:=fun n (h : -40000000000000000<=n/\n<=4611686018427387904) w' (m:Bel w.heap.size w w')=>Zmn A c l n w' (E.up m) K B h
 have I:=fun n (h : -40000000000000000<=n/\n<=4611686018427387904) w' (m:Bel w.heap.size w w')=>ZfJ A c l n w' (E.up m) K B h
 have i:=fun w' (m:Bel w.heap.size w w')=>ZjJ A c l w' (E.up m) K B
 have r:=fun(e:Zac) (C:EvOf l e) w' (m:Bel w.heap.size w w')=>ZcP A c l e w' (E.up m) (B.ev_bd C).2
 have q:=fun(e:Zac) (C:EvOf l e) w' (m:Bel w.heap.size w w')=>Zhk A c l e d w' (E.up m) K B C Y
 have H:∀ n e,befD l n=some e->EvOf l e/\(-5000000000<=e.nominal/\e.nominal<=70000000000000000):=fun n e C=>⟨(Zlx C).1,(B.ev_bd (Zlx C).1).1⟩
 obtain⟨R,J⟩:∃ R,atS l d t=R:=⟨_,rfl⟩
 rw[J]
 unfold atS at J
 have V:∀ k n,atGo l d t (k+1) n=match befD l n with
  | none=>iniS l
  | some e=>if Zcc l e d<=t then behS l e else atGo l d t k e.nominal:=fun _ _=>rfl
 have W:∀ n,atGo l d t 0 n=befS l n:=fun _=>rfl
 obtain⟨R1,R2⟩:=R
 refine Zaa func102 rfl rfl rfl rfl ?_
 repeat (first|(refine js ?_;(first|(refine Zab (fun w' _=>M w') ?_)|(refine bx ?_;intro D)))|refine walk ?_)
 refine Zah [(0,.slice A l.length c),(1,.int .i64 d),(2,.int .i64 t),(6,.pointer (some ⟨D,0,none⟩))] [.blk D [.int .i64 0,.string ByteArray.empty] 155] (fun g:RaG=>[(10,.int .i64 g.j),(7,.int .i64 g.n)]) (fun _=>[]) (fun g=>g.j<=3/\(-40000000000000000<=g.n/\g.n<=4611686018427387904)/\atGo l d t (3 - g.j) g.n=(R1,R2)) (fun g=>3 - g.j) ⟨0,t+259200⟩ SFA SOA ⟨Nat.zero_le _,by dsimp only;omega,J⟩ ?_
 clear J
 rintro⟨j,n⟩ ⟨hj,hnb,hi⟩
 dsimp only at hj hnb hi ⊢
 repeat (refine walk ?_)
 refine Zaf rfl (fun N=>?_) (fun N=>?_)
 ·have X:j<3:=by have:=of_decide_eq_true N;omega
  rw[show 3 - j=(2 - j)+1 by omega,V]at hi
  have f:=F n hnb
  cases hbn:befD l n with
  | none =>
   rw[hbn]at f hi
   dsimp only at hi
   rw[hi]at i
   simp only[evV,Zac.enc,dEv0,Option.isSome,stV]at f i
   repeat (first|(refine js ?_;(first|(refine Zab f ?_)|(refine Zab i ?_)|(refine bx ?_;intro D)))|refine walk ?_)
   exact ret_1 _ [] (.cellB rfl cS_ rfl rfl) .nil ⟨rfl,rfl⟩
  | some e =>
   obtain⟨s,Q⟩:=H n e hbn
   rw[hbn]at f hi
   dsimp only at hi
   have z:=r e s
   have y:=q e s
   clear hbn s r q F H
   generalize behS l e=x at *
   generalize Zcc l e d=u at *
   obtain⟨x1,x2⟩:=x
   obtain⟨ey,Z,U⟩:=e
   simp only[evV,Zac.enc,Option.isSome,stV]at f z y
   dsimp only at Q
   by_cases L:u<=t
   ·have b1:decide (u<=t)=true:=dT_ L
    rw[if_pos L]at hi
    obtain⟨rfl,rfl⟩:=Prod.mk.inj hi
    repeat (first|(apply RL_pu;rfl;exact Zzo)|(refine js ?_;(first|(refine Zab f ?_)|(refine Zab z ?_)|(refine Zab y ?_)|(refine bx ?_;intro D)))|refine walk1 ?_)
    exact ret_1 _ [] (.cellB rfl cS_ rfl rfl) .nil ⟨rfl,rfl⟩
   ·have b1:decide (u<=t)=false:=dF_ L
    rw[if_neg L]at hi
    repeat (first|(apply RL_pu;rfl;exact Zzo)|(refine js ?_;(first|(refine Zab f ?_)|(refine Zab z ?_)|(refine Zab y ?_)|(refine bx ?_;intro D)))|refine walk1 ?_)
    exact⟨⟨j+1,U⟩,OA,⟨OA,by dsimp only;omega,by dsimp only;rw[show 3 - (j+1)=2 - j by omega];exact hi⟩,SFA,SOA⟩
 ·obtain rfl:j=3:=by have:=of_decide_eq_false N;omega
  have T:befS l n=(R1,R2):=hi
  have S:=I n hnb
  rw[T]at S
  simp only[stV]at S
  repeat (first|(refine js ?_;((refine Zab S ?_)))|refine walk ?_)
  exact ret_1 _ [] (.cellB rfl cS_ rfl rfl) .nil ⟨rfl,rfl⟩
theorem Zdv (n:Int)(w:World):Does prog 157 [.int .i64 n] w (fun v O=>v = .bool (ZgR n)/\O=[]):=by
 refine Zaa func157 rfl rfl rfl rfl ?_
 repeat' (first|refine walk ?_|(refine Zas rfl rfl rfl (fun a=>?_) (fun a=>?_)))
 all_goals (refine ret_1 _ [] (.tmp rfl) .nil ⟨?_,rfl⟩;first|(simp_all [ZgR];done)|(simp_all [ZgR];omega))
theorem ZAg {u:DUntil}{least:Int}(h:ZaF u least=0):(-604799<=u.at_.sec/\u.at_.sec<=604799)/\0<=u.at_.base/\u.at_.base<=2:=by
 unfold ZaF at h
 by_cases a:least < -10800\/0<least
 ·rw[if_pos a]at h;omega
 rw[if_neg a]at h
 by_cases b:u.is=false
 ·rw[if_pos b]at h;omega
 rw[if_neg b]at h
 by_cases c:u.year<1850\/2149<u.year\/ZaL u.at_=false
 ·rw[if_pos c]at h;omega
 have d:ZaL u.at_=true:=by
  cases hc:ZaL u.at_ with
  | true=>rfl
  | false=>exact absurd (.inr (.inr hc)) c
 simp only[ZaL,Bool.and_eq_true,decide_eq_true_eq]at d
 omega
theorem Zwh {u:DUntil}{least:Int}(a:ZaF u least=0) : -4000000000<=(Zao u least).1/\(Zao u least).1<=6000000000:=by
 have m : -10800<=least/\least<=0:=by
  unfold ZaF at a
  by_cases e:least < -10800\/0<least
  ·rw[if_pos e]at a;omega
  ·omega
 unfold Zao
 rw[if_neg (by rw[a];decide)]
 dsimp only
 unfold ZaF at a
 rw[if_neg (by omega)]at a
 by_cases c:u.is=false
 ·rw[if_pos c]at a;omega
 rw[if_neg c]at a
 by_cases d:u.year<1850\/2149<u.year\/ZaL u.at_=false
 ·rw[if_pos d]at a;omega
 rw[if_neg d]at a
 dsimp only at a
 by_cases b:(onD u.year u.month u.day).2≠0\/(if u.at_.base=1 then u.at_.sec+least else u.at_.sec) < -86400\/172800<(if u.at_.base=1 then u.at_.sec+least else u.at_.sec)
 ·rw[if_pos b]at a;omega
 have f:(onD u.year u.month u.day).2=0:=Decidable.byContradiction fun g=>b (.inl g)
 obtain⟨m1,m2,j,k⟩:=Zmw f
 have l:=ZiU u.year u.month m1 m2
 have h:=Za9 1850 (u.year - 1850).toNat
 have i:=Za9 u.year (2149 - u.year).toNat
 rw[show(1850:Int)+((u.year - 1850).toNat:Int)=u.year by omega]at h
 rw[show u.year+((2149 - u.year).toNat:Int)=2149 by omega]at i
 have n:jan1 1850 = -43829:=by decide
 have k1:jan1 2149=65379:=by decide
 generalize (onD u.year u.month u.day).1=D at *
 split at b <;> simp_all <;> omega
theorem Zsz (p q r:Int):p - q - r=p - r - q:=by omega
theorem Zvm {G:Prop}(h:G:=by(first|(apply Zap;rfl;rfl;first|exact k1|exact k2|exact b0|exact b1)|(apply Zau;rfl;rfl;exact k3)|(apply Zav;rfl;rfl;exact k4)|(apply Zdz;rfl;rfl;exact hmx))):G:=h
theorem Zyj {G:Prop}(h:G:=by first|(apply Qy_y;rfl;exact Zvm)|exact QyA):G:=h
theorem ZyN {G:Prop}(h:G:=by repeat (first|exact QF.nil|(apply QF.mk;rfl;rfl;decide +kernel;exact Zyj))):G:=h
theorem Zso {G G':Prop}(k:G')(h:Hold G'->G:=by intro k9;(first|(apply RL_pu;rfl;exact Zvm)|(apply RD_Q;rfl;rfl;decide +kernel;rfl;rfl;exact Zyj)|refine walk1 ?_|(refine jg ?_;(try intro F);(first|(refine Zab (fun w' _=>hwo w') ?_)|(refine Zab (fun w' _=>hws w') ?_)|(refine Zab (fun w' _=>hwb w') ?_)|(refine Zab (fun w' _=>hno w') ?_)|(refine Zab (fun w' _=>hse w') ?_)|(refine Zab hls ?_)|(refine Zab hbf ?_));first|refine⟨_,EndsA,ZyN,?_⟩|refine fin ?_)|(refine jn ?_;(try intro F);(apply Zan;first|exact Zvm|exact PuA);first|refine⟨_,EndsA,ZyN,?_⟩|refine fin ?_));exact k9.out):G:=h ⟨k⟩
theorem Zvl {G:Prop}(h:G:=by(first|(apply Zap;rfl;rfl;first|exact k1|exact k2|exact b0|exact b1)|(apply Zau;rfl;rfl;exact k3)|(apply Zav;rfl;rfl;exact k4))):G:=h
theorem Zyi {G:Prop}(h:G:=by first|(apply Qy_y;rfl;exact Zvl)|exact QyA):G:=h
theorem ZyM {G:Prop}(h:G:=by repeat (first|exact QF.nil|(apply QF.mk;rfl;rfl;decide +kernel;exact Zyi))):G:=h
theorem Zjx {G G':Prop}(k:G')(h:Hold G'->G:=by intro k9;(first|(apply RL_pu;rfl;exact Zvl)|(apply RD_Q;rfl;rfl;decide +kernel;rfl;rfl;exact Zyi)|refine walk1 ?_|(refine jg ?_;(try intro F);(first|(refine Zab (fun w' _=>hwo w') ?_)|(refine Zab (fun w' _=>hws w') ?_)|(refine Zab (fun w' _=>hwb w') ?_)|(refine Zab (fun w' _=>hno w') ?_)|(refine Zab (fun w' _=>hse w') ?_));first|refine⟨_,EndsA,ZyM,?_⟩|refine fin ?_)|(refine jn ?_;(try intro F);(apply Zan;first|exact Zvl|exact PuA);first|refine⟨_,EndsA,ZyM,?_⟩|refine fin ?_));exact k9.out):G:=h ⟨k⟩
set_option maxHeartbeats 0 in
theorem Zmp (e:DEra)(A:Option Addr)(c:Nat)(l:List DRule)(w:World)(U:RdSl w A c DRule.enc 11 l)(K:RsSm l)(W:e.kind=2->Zbb l)(d:UnOk e l) :
  Does prog 103 [.agg e.enc.toArray,.slice A l.length c] w (fun v O=>v = .tuple #[.int .i64 (endT e l),.int .i64 0]/\O=[]):=by
 have hk:=d.k
 have ho:=Zgh d.o
 have ac:=Zgh d.s
 have M:=d.c
 have hb:=Zgh d.b
 obtain⟨N,ab⟩:=ZAg M
 have Z:=ZeF e.til.year e.til.month e.til.day
 have hwo:=fun w'=>Zdv e.off w'
 have hws:=fun w'=>Zdv e.save w'
 have hwb:=fun w'=>Zdv (endB e l) w'
 rw[d.o]at hwo
 rw[d.s]at hws
 rw[d.b]at hwb
 have hno:=fun w'=>Zic e.til (Go.Wk.bsE e l) w'
 have J:Zao e.til (Go.Wk.bsE e l)=(86400*(onD e.til.year e.til.month e.til.day).1+e.til.at_.sec+(if e.til.at_.base=1 then Go.Wk.bsE e l else 0),0):=by
  unfold Zao
  rw[if_neg (by rw[M];decide)]
 have hse:=fun w'=>Zib e.til N w'
 have hls:=fun w' (Q:Bel w.heap.size w w')=>Zco A c l w' (U.up Q)
 have aa : -10800<=Go.Wk.bsE e l/\Go.Wk.bsE e l<=0:=by
  unfold Go.Wk.bsE
  split
  ·have:=ZcY l;omega
  ·decide
 have hbf:e.kind=2->∀ w',Bel w.heap.size w w'->Does prog 156 [.slice A l.length c,.int .i64 (Zao e.til (Go.Wk.bsE e l)).1] w' (fun v O=>v=stV (befS l (Zao e.til (Go.Wk.bsE e l)).1)/\O=[]):=fun E w' Q=>by
  refine ZfJ A c l _ w' (U.up Q) K.n (W E) ?_
  have:=Zwh M
  omega
 unfold endT
 have f:endB e l=bfE e l (Zao e.til (Go.Wk.bsE e l)).1:=rfl
 generalize endB e l=B at *
 unfold bfE at f
 rw[J]at hno hbf f
 dsimp only at hno hbf f
 have j:Go.Wk.bsE e l=if e.kind=2 then max (Zae l) (-10800) else 0:=rfl
 generalize Go.Wk.bsE e l=bs at *
 generalize befS l _=x at *
 generalize Zae l=L at *
 generalize (onD e.til.year e.til.month e.til.day).1=D at *
 clear J M d W K
 obtain⟨x1,x2⟩:=x
 have hmx:(if L < -10800 then -10800 else L)=max L (-10800):=by split <;> omega
 obtain⟨off,r,I,st,X,⟨R,T,S,⟨u,y,z⟩,⟨t,a⟩⟩⟩:=e
 dsimp only at *
 change ∀ w',Does _ _ [.agg #[.bool R,.int .i64 T,.int .i64 S,.int .i64 u,.int .i64 y,.int .i64 z,.int .i64 t,.int .i64 a],_] w' _ at hno
 change ∀ w',Does _ _ [.agg #[.bool R,.int .i64 T,.int .i64 S,.int .i64 u,.int .i64 y,.int .i64 z,.int .i64 t,.int .i64 a]] w' _ at hse
 show Does _ _ [.agg #[.int .i64 off,.int .i64 r,.int .i64 I,.string st,.string X,.bool R,.int .i64 T,.int .i64 S,.int .i64 u,.int .i64 y,.int .i64 z,.int .i64 t,.int .i64 a],_] w _
 simp only[stV]at hbf
 have k3:decide (r<0)=false:=dF_ (by omega)
 have k4:decide (2<r)=false:=dF_ (by omega)
 have Y:∀ b,(if a=1 then b else 0)=(if a=1 then b else 0):=fun _=>rfl
 refine Zaa func103 rfl rfl rfl rfl ?_
 by_cases E:r=2
 ·subst E
  have k1:decide ((2:Int)=1)=false:=rfl
  have k2:decide ((2:Int)=2)=true:=rfl
  rw[if_pos rfl]at j
  rw[if_neg (by decide),if_pos rfl]at f
  replace hbf:=hbf rfl
  subst j
  subst f
  by_cases p:a=0
  ·subst p
   have b0:decide ((0:Int)=0)=true:=rfl
   have b1:=b0
   rw[if_pos rfl]
   rw[if_neg (by decide)]at hno hbf
   repeat (first|refine Zso ?_|(refine jg ?_;(try intro F);(refine bx ?_;intro m);refine fin ?_))
   exact ret_2 _ _ [] (.tmp rfl) (.tmp rfl) .nil ⟨by rw[Zsz],rfl⟩
  rw[if_neg p]
  have b0:decide (a=0)=false:=dF_ p
  by_cases g:a=1
  ·subst g
   have b1:decide ((1:Int)=1)=true:=rfl
   rw[if_pos rfl]at hno hbf ⊢
   repeat (first|refine Zso ?_|(refine jg ?_;(try intro F);(refine bx ?_;intro m);refine fin ?_))
   exact rtB
  ·have b1:decide (a=1)=false:=dF_ g
   rw[if_neg g]at hno hbf ⊢
   repeat (first|refine Zso ?_|(refine jg ?_;(try intro F);(refine bx ?_;intro m);refine fin ?_))
   exact rtB
 ·clear hbf
  have k2:decide (r=2)=false:=dF_ E
  rw[if_neg E]at j
  subst j
  have hz:(if a=1 then (0:Int) else 0)=0:=by split <;> rfl
  rw[hz]at hno
  obtain⟨q,k1⟩:∃ q,decide (r=1)=q:=⟨_,rfl⟩
  have H:(q=true->B=I)/\(q=false->B=0):=by
   rw[f,if_neg E,<- k1]
   by_cases g:r=1
   ·rw[if_pos g,dT_ g]
    exact⟨fun _=>rfl,fun h=>(by cases h)⟩
   ·rw[if_neg g,dF_ g]
    exact⟨fun h=>(by cases h),fun _=>rfl⟩
  clear f
  by_cases p:a=0
  ·subst p
   have b0:decide ((0:Int)=0)=true:=rfl
   have b1:=b0
   rw[if_pos rfl]
   cases q with
   | true =>
    obtain rfl:=H.1 rfl
    repeat (first|refine Zjx ?_|(refine jg ?_;(try intro F);(refine bx ?_;intro m);refine fin ?_))
    exact ret_2 _ _ [] (.tmp rfl) (.tmp rfl) .nil ⟨by rw[Zsz],rfl⟩
   | false =>
    obtain rfl:=H.2 rfl
    repeat (first|refine Zjx ?_|(refine jg ?_;(try intro F);(refine bx ?_;intro m);refine fin ?_))
    exact ret_2 _ _ [] (.tmp rfl) (.tmp rfl) .nil ⟨by rw[Zsz],rfl⟩
  rw[if_neg p]
  have b0:decide (a=0)=false:=dF_ p
  by_cases g:a=1
  ·subst g
   have b1:decide ((1:Int)=1)=true:=rfl
   rw[if_pos rfl]
   cases q with
   | true =>
    obtain rfl:=H.1 rfl
    repeat (first|refine Zjx ?_|(refine jg ?_;(try intro F);(refine bx ?_;intro m);refine fin ?_))
    exact rtB
   | false =>
    obtain rfl:=H.2 rfl
    repeat (first|refine Zjx ?_|(refine jg ?_;(try intro F);(refine bx ?_;intro m);refine fin ?_))
    exact rtB
  ·have b1:decide (a=1)=false:=dF_ g
   rw[if_neg g]
   cases q with
   | true =>
    obtain rfl:=H.1 rfl
    repeat (first|refine Zjx ?_|(refine jg ?_;(try intro F);(refine bx ?_;intro m);refine fin ?_))
    exact rtB
   | false =>
    obtain rfl:=H.2 rfl
    repeat (first|refine Zjx ?_|(refine jg ?_;(try intro F);(refine bx ?_;intro m);refine fin ?_))
    exact rtB
theorem Zzn {G:Prop}(h:G:=by(apply Zap;rfl;rfl;exact hb)):G:=h
theorem Zf6 (Ar Az Al As:Option Addr)(i j g cs:Nat)(a:DSource)(e:DEra)(w:World)(t:Zam w Ar Az Al As i j g cs a)(u:a.rules.length<=1000000) :
  Does prog 104 [srcV Ar Az Al As i j g cs a,.agg e.enc.toArray] w (ZgC 68 11 DRule.enc (ruEr a.rules e)):=by
 have d:=fun w' (p:Bel w.heap.size w w')=>Zih Ar Az Al As i j g cs a e.set w' (t.up p) u
 unfold ruEr
 obtain⟨x,c,r,set,f,til⟩:=e
 dsimp only at d ⊢
 simp only[DEra.enc]
 refine Zaa func104 rfl rfl rfl rfl ?_
 by_cases m:c=2
 ·subst m
  have hb:decide ((2:Int)=2)=true:=rfl
  rw[if_pos rfl]
  generalize ofB a.rules set=R at *
  repeat (first|(apply RL_pu;rfl;exact Zzn)|(refine js ?_;(first|(apply Zad (h:=fun w' p _=>d w' p);rfl;rintro v O' ⟨A3,q,rfl,rfl⟩)|(refine bx ?_;intro s)))|refine walk1 ?_)
  exact ret_1 _ [.row (.slice A3 R.length q) 68 11 R.length (R.flatMap DRule.enc)] (.tmp rfl) SOA ⟨A3,q,rfl,rfl⟩
 ·rw[if_neg m]
  have hb:decide (c=2)=false:=dF_ m
  refine Zdy 68 11 ?_
  repeat (first|(apply RL_pu;rfl;exact Zzn)|(refine js ?_;(refine bx ?_;intro s))|refine walk1 ?_)
  exact ret_1 _ [.row (.slice none 0 0) 68 11 0 []] (.tmp rfl) SOA ⟨none,0,rfl,rfl⟩
structure SqG where
 k:Nat
 st:Int
 A:Option Addr
 c:Nat
 m:Nat
 xs:List Value
 acc:List ZaE
theorem Zzm {G:Prop}(h:G:=by(first|(apply Zau;rfl;rfl;exact hb0)|(apply ZbF;rfl;rfl;exact hb1)|(apply Pu_indexAddr;rfl;rfl;omega;omega;exact hnz)|(apply Pu_loadO1;rfl;exact hcz 1 _ rfl))):G:=h
theorem Zzl {G:Prop}(h:G:=by(first|exact PuI|(apply Zau;rfl;rfl;exact q1)|(apply Zbl;rfl;rfl;exact q2))):G:=h
theorem Zyh {G:Prop}(h:G:=by first|(apply Qy_y;rfl;exact Zzl)|exact QyA):G:=h
theorem ZyL {G:Prop}(h:G:=by repeat (first|exact QF.nil|(apply QF.mk;rfl;rfl;decide +kernel;exact Zyh))):G:=h
theorem ZDa {G:Prop}(h:G:=by((apply Zau;rfl;rfl;exact q1))):G:=h
set_option maxHeartbeats 0 in
theorem Zf5 (Ar Az Al As:Option Addr)(R S Q cs:Nat)(a:DSource)(i:Nat)(z:DZone)(j:List ZaE)(w:World)(U:Zam w Ar Az Al As R S Q cs a)(hn:a.rules.length<=1000000)(hl:z.eras.length<=1000000)(hz:a.zones[i]?=some z)
  (hE:∀ k e,z.eras[k]?=some e->k+1<z.eras.length->RsSm (ruEr a.rules e)/\UnOk e (ruEr a.rules e)/\(e.kind=2->Zbb (ruEr a.rules e))) (ac:Zey a.rules z.eras=some j) :
  Does prog 56 [srcV Ar Az Al As R S Q cs a,.int .i64 i] w (SpR j):=by
 have am:i<a.zones.length:=(List.getElem?_eq_some_iff.1 hz).1
 obtain⟨hnz,ak,⟨Ae,ce,q,rfl⟩,hcz⟩:=U.z i _ hz
 have E:=U.zcap
 have aj:=U.zle
 simp only[maxLen]at E
 have I:=fun(e:DEra) w' (W:Bel w.heap.size w w')=>Zf6 Ar Az Al As R S Q cs a e w' (U.up W) hn
 have hb0:decide ((i:Int)<0)=false:=dF_ (by omega)
 have hb1:decide ((a.zones.length:Int)<=(i:Int))=false:=dF_ (by omega)
 have al:=q.le
 have Z:=q.cap
 simp only[maxLen]at Z
 refine Zaa func56 rfl rfl rfl rfl ?_
 refine Zdy 109 3 ?_
 repeat (first|(apply RL_pu;rfl;exact Zzm)|refine walk1 ?_|(refine jn ?_;(try intro F);(first|(refine bx ?_;intro M)|(apply Zan;first|exact Zzm|exact PuA));first|refine⟨_,EndsA,QFRhD3,?_⟩|refine fin ?_))
 refine Zah [(2,.pointer (some ⟨M,0,none⟩)),(6,.slice Ae z.eras.length ce)] [.blk M [.slice Ar a.rules.length R,.slice Az a.zones.length S,.slice Al a.links.length Q,.slice As a.shifts.length cs] 27]
  (fun g:SqG=>[(7,.slice g.A g.m g.c),(8,.int .i64 g.st),(9,.int .i64 g.k)]) (fun g=>[.row (.slice g.A g.m g.c) 109 3 g.m g.xs])
  (fun g=>g.k<=z.eras.length/\g.m=g.acc.length/\g.xs=g.acc.flatMap ZaE.enc/\g.m=g.k/\∃ f,spGo a.rules (z.eras.drop g.k) g.st g.k=some f/\g.acc++f=j) (fun g=>z.eras.length - g.k)
  ⟨0,-9223372036854775808,none,0,0,[],[]⟩ SFA SOA ⟨Nat.zero_le _,rfl,rfl,rfl,j,ac,rfl⟩ ?_
 rintro⟨k,st,A,c,m,xs,acc⟩ ⟨hk,hm,hx,hmk,f,hi,hacc⟩
 dsimp only at hk hm hx hmk hi hacc ⊢
 repeat (refine walk ?_)
 refine Zaf rfl (fun t=>?_) (fun t=>?_)
 ·simp only[decide_eq_true_eq,Int.ofNat_lt]at t
  obtain⟨hna,hca⟩:=q.rd k _ (List.getElem?_eq_getElem t)
  have aa:=List.getElem?_eq_getElem t
  rw[Zag t]at hi
  have s:=I z.eras[k]
  generalize z.eras[k]=e at *
  by_cases d:k+1<z.eras.length
  ·have q1:decide ((k:Int)+1<(z.eras.length:Int))=true:=dT_ (by omega)
   obtain⟨J,K,u⟩:=hE k _ aa d
   rw[Zag d,spGo]at hi
   have H:=fun(A3:Option Addr) (N:Nat) w' hR=>Zmp e A3 N (ruEr a.rules e) w' hR J u K
   generalize endT e (ruEr a.rules e)=T at *
   by_cases Y:T<=st
   ·rw[if_pos Y]at hi
    cases hi
   rw[if_neg Y,<- Zag d]at hi
   have q2:decide (T<=st)=false:=dF_ Y
   obtain⟨r2,ab,rfl⟩:=Option.map_eq_some_iff.1 hi
   unfold ZgC at s
   generalize ruEr a.rules e=rr at *
   clear K J u hE hi
   obtain⟨ad,kd,X,L,fm,⟨ui,uy,um,⟨ag,ah,ai⟩,⟨ae,af⟩⟩⟩:=e
   simp only[DEra.enc]at hca H s
   repeat (first|(apply RL_pu;rfl;exact Zzl)|(apply RD_Q;rfl;rfl;decide +kernel;rfl;rfl;exact Zyh)|refine walk1 ?_|(refine jg ?_;(try intro F);(first|(apply Zad (h:=fun w' W _=>s w' W);rfl;rintro v O' ⟨A3,N,rfl,rfl⟩)|(refine ZaH (fun w' W r=>H A3 N w' (ZaJ DRule.len (r.of (A := .row (.slice A3 rr.length N) 68 11 rr.length (rr.flatMap DRule.enc)) cS_))) ?_)|(apply ZaC;rfl;rfl;(intro A' c';(focus repeat' constructor));(intro w' _ r;exact Zbr (r.of cS_));rfl;rfl;(simp only[maxLen];omega);omega;intro A' c' x y D)|(refine bx ?_;intro M));first|refine⟨_,EndsA,ZyL,?_⟩|refine fin ?_)|(refine jn ?_;(try intro F);(first|(apply ZaC;rfl;rfl;(intro A' c';(focus repeat' constructor));(intro w' _ r;exact Zbr (r.of cS_));rfl;rfl;(simp only[maxLen];omega);omega;intro A' c' x y D)|(apply Zan;exact PuA));refine⟨_,EndsA,ZyL,?_⟩))
   exact⟨⟨k+1,T,A',c',m+1,xs++(⟨st,T,k⟩:ZaE).enc,acc++[⟨st,T,k⟩]⟩,OA,⟨OA,by simp[hm],by rw[hx];exact ZbB acc _,OA,r2,ab,by rw[<- hacc];simp⟩,SFA,SOA⟩
  ·have q1:decide ((k:Int)+1<(z.eras.length:Int))=false:=dF_ (by omega)
   rw[List.drop_eq_nil_of_le (by omega),spGo]at hi
   cases hi
   obtain⟨ad,kd,X,L,fm,⟨ui,uy,um,⟨ag,ah,ai⟩,⟨ae,af⟩⟩⟩:=e
   simp only[DEra.enc]at hca
   repeat (first|(apply RL_pu;rfl;exact ZDa)|refine walk1 ?_|(refine jn ?_;(try intro F);(first|(apply ZaC;rfl;rfl;(intro A' c';(focus repeat' constructor));(intro w' _ r;exact Zbr (r.of cS_));rfl;rfl;(simp only[maxLen];omega);omega;intro A' c' x y D)|(refine bx ?_;intro M));first|refine⟨_,EndsA,QFRhD5,?_⟩|refine fin ?_))
   exact⟨⟨k+1,9223372036854775807,A',c',m+1,xs++(⟨st,9223372036854775807,k⟩:ZaE).enc,acc++[⟨st,9223372036854775807,k⟩]⟩,OA,⟨OA,by simp[hm],by rw[hx];exact ZbB acc _,OA,[],by dsimp only;rw[List.drop_eq_nil_of_le (by omega)];rfl,by rw[List.append_nil];exact hacc⟩,SFA,SOA⟩
 ·simp only[decide_eq_false_iff_not,Int.ofNat_lt]at t
  obtain rfl:k=z.eras.length:=by omega
  rw[List.drop_length,spGo]at hi
  cases hi
  rw[List.append_nil]at hacc
  subst hacc
  repeat (refine walk ?_)
  exact ret_2 _ _ [.row (.slice A acc.length c) 109 3 acc.length (acc.flatMap ZaE.enc)] (.tmp rfl) (.tmp rfl) (by subst hm hx;exact SOA) ⟨A,c,by rw[hm],rfl⟩
theorem Zzk {G:Prop}(h:G:=by(first|exact PuI|(apply Zbl;rfl;rfl;exact b1)|(apply Zau;rfl;rfl;exact b2))):G:=h
theorem Zhj (A:Option Addr)(c:Nat)(l:List ZaE)(t:Int)(w:World)(m:RdSl w A c ZaE.enc 3 l)(D:l.length<=1000000) :
  Does prog 57 [.slice A l.length c,.int .i64 t] w (fun v O=>v = .tuple #[.agg (Zdh l t).1.enc.toArray,.bool (Zdh l t).2]/\O=[]):=by
 have z:=m.le
 have r:=m.cap
 simp only[maxLen]at r
 obtain⟨X,q⟩:∃ X,ZcC t l 0=X:=⟨_,rfl⟩
 unfold Zdh
 rw[q]
 refine Zaa func57 rfl rfl rfl rfl ?_
 repeat (first|(refine js ?_;(refine bx ?_;intro g))|refine walk ?_)
 refine Zah [(0,.slice A l.length c),(1,.int .i64 t),(4,.pointer (some ⟨g,0,none⟩))] [.blk g [.int .i64 0,.int .i64 0,.int .i64 0] 109] (fun k:Nat=>[(6,.int .i64 k)]) (fun _=>[]) (fun k=>k<=l.length/\ZcC t (l.drop k) k=X) (fun k=>l.length - k) 0 SFA SOA ⟨Nat.zero_le _,q⟩ ?_
 clear q
 rintro k ⟨C,d⟩
 repeat (first|(refine js ?_;(refine bx ?_;intro g))|refine walk ?_)
 refine Zaf rfl (fun e=>?_) (fun e=>?_)
 ·simp only[decide_eq_true_eq,Int.ofNat_lt]at e
  have f:=List.getElem?_eq_getElem e
  obtain⟨hna,hca⟩:=m.rd k _ f
  rw[Zag e,ZcC]at d
  have s:l.getD k sp0=l[k]:=by rw[List.getD_eq_getElem?_getD,f];rfl
  generalize l[k]=x at *
  obtain⟨i,j,B⟩:=x
  change Zat w _ [.int .i64 i,.int .i64 j,.int .i64 B]at hca
  unfold spIn at d
  dsimp only at d
  by_cases u:i<=t
  ·have b1:decide (i<=t)=true:=dT_ u
   rw[b1,Bool.true_and]at d
   by_cases y:t<j
   ·have b2:decide (t<j)=true:=dT_ y
    rw[b2,if_pos rfl]at d
    subst d
    rw[if_neg (by omega),Int.toNat_natCast,s]
    repeat (first|(apply RL_pu;rfl;exact Zzk)|refine walk1 ?_)
    exact rtC
   ·have b2:decide (t<j)=false:=dF_ y
    rw[b2,if_neg (by decide)]at d
    repeat (first|(apply RL_pu;rfl;exact Zzk)|refine walk1 ?_)
    exact⟨k+1,OA,⟨OA,d⟩,SFA,SOA⟩
  ·have b1:decide (i<=t)=false:=dF_ u
   rw[b1,Bool.false_and,if_neg (by decide)]at d
   repeat (first|(apply RL_pu;rfl;(first|exact PuI|(apply Zbl;rfl;rfl;exact b1)))|refine walk1 ?_)
   exact⟨k+1,OA,⟨OA,d⟩,SFA,SOA⟩
 ·simp only[decide_eq_false_iff_not,Int.ofNat_lt]at e
  rw[List.drop_eq_nil_of_le (by omega)]at d
  obtain rfl : -1=X:=d
  rw[if_pos (by decide)]
  repeat (first|(refine js ?_;(refine bx ?_;intro g))|refine walk ?_)
  exact rtC
end Go.Proofs.YtpipekfmecikmaaGreatDoor
namespace Go.Proofs.YtpipekfmecikmaaGreatDoor
open Go Go.RowKit Go.Wk
attribute [local irreducible] W RL Does Zaq Zai retQ Calls Pu Stp RD Qy Ay
attribute [local irreducible] Zaj
end Go.Proofs.YtpipekfmecikmaaGreatDoor
namespace Go.Wk
open Go Go.RowKit
end Go.Wk
namespace Go.Proofs.YtpipekfmecikmaaGreatDoor
open Go Go.RowKit Go.Wk
attribute [local irreducible] W RL Does Zaq Zai retQ Calls Pu Stp RD Qy Ay Zaj
end Go.Proofs.YtpipekfmecikmaaGreatDoor
namespace Go.Proofs.YtpipekfmecikmaaGreatDoor
open Go Go.RowKit Go.Wk
