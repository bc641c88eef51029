/- Parts of the proof. -/
import Derived.Test.YtpipekfmecikmaaGreatDoorW23
import Derived.Test.YtpipekfmecikmaaGreatDoorW25
import Derived.Test.YtpipekfmecikmaaGreatDoorW10
import Derived.Test.YtpipekfmecikmaaGreatDoorW11
set_option maxHeartbeats 4000000
set_option linter.unusedVariables false
set_option linter.unusedSimpArgs false
namespace Go.Proofs.YtpipekfmecikmaaGreatDoor
open Go Go.RowKit Go.Wk
attribute [local irreducible] W RL Does Zat Zaj retQ Calls Pu Stp RD Qy Ay Zak
theorem ZyU {G:Prop}(h:G:=by(apply Zan;rfl;rfl;first|exact c1|exact c2)):G:=h
theorem Zrq (a b:Zac)(w:World):Does Tryz.prog 90 [.agg a.enc.toArray,.agg b.enc.toArray] w (fun v O=>v = .bool (ltE a b)/\O=[]):=by
 obtain⟨m,g,e⟩:=a
 obtain⟨p,i,f⟩:=b
 rw[ZxA]
 simp only[Zac.enc]
 refine Zaa Tryz.func90 rfl rfl rfl rfl ?_
 by_cases c:e=f
 ·have c1:(!decide (e=f))=false:=by rw[decide_eq_true c];rfl
  rw[if_pos c]
  by_cases d:g=i
  ·have c2:(!decide (g=i))=false:=by rw[decide_eq_true d];rfl
   rw[if_pos d]
   repeat (first|(apply RL_pu;rfl;exact ZyU)|(refine js ?_;(refine bx ?_;intro j))|refine walk1 ?_)
   exact rtA
  ·have c2:(!decide (g=i))=true:=by rw[decide_eq_false d];rfl
   rw[if_neg d]
   repeat (first|(apply RL_pu;rfl;exact ZyU)|(refine js ?_;(refine bx ?_;intro j))|refine walk1 ?_)
   exact rtA
 ·have c1:(!decide (e=f))=true:=by rw[decide_eq_false c];rfl
  rw[if_neg c]
  repeat (first|(apply RL_pu;rfl;(apply Zan;rfl;rfl;exact c1))|(refine js ?_;(refine bx ?_;intro j))|refine walk1 ?_)
  exact rtA
def ZzS (r:DRule)(y:Int)(up:Bool):Int × Int:=if up then Zxx r y else Zcx r y
theorem Zvb {G:Prop}(h:G:=by(first|(apply Zds;rfl;rfl;first|exact m0|exact m2|exact m3)|(apply ZgN;rfl;rfl;first|exact m1|exact m4)|(apply Zan;rfl;rfl;exact b1))):G:=h
theorem Zrp (r:DRule)(y:Int)(up:Bool)(q:r.from_<=4611686018427387904)(t : -4611686018427387904<=r.to)(C : -2000000000<=y/\y<=2000000000)(w:World) :
  Does Tryz.prog 87 [.agg r.enc.toArray,.int .i64 y,.bool up] w (fun v O=>v = .tuple #[.int .i64 (ZzS r y up).1,.int .i64 (ZzS r y up).2]/\O=[]):=by
 unfold ZzS Zxx Zcx lastY
 obtain⟨B,fr,to,A,⟨m,p,dd⟩,⟨cs,j⟩,sv,le⟩:=r
 dsimp only at q t ⊢
 show Does _ _ [.agg #[.string B,.int .i64 fr,.int .i64 to,.int .i64 A,.int .i64 m,.int .i64 p,.int .i64 dd,.int .i64 cs,.int .i64 j,.int .i64 sv,.string le],.int .i64 y,.bool up] w _
 obtain⟨b,d⟩:∃ b,max fr (-2000000000)=b:=⟨_,rfl⟩
 rw[d]
 have m0:(if fr < -2000000000 then -2000000000 else fr)=b:=by split <;> omega
 obtain⟨t0,a⟩:∃ t0,(if to=1048576 then 2000000000 else min to 2000000000)=t0:=⟨_,rfl⟩
 rw[a]
 have s : -2000000000<=b/\b<=4611686018427387904:=by omega
 have u : -4611686018427387904<=t0/\t0<=2000000000:=by rw[<- a];split <;> omega
 clear d
 obtain⟨x,f⟩:∃ x,min t0 (y+2)=x:=⟨_,rfl⟩
 obtain⟨z,g⟩:∃ z,max b (y - 2)=z:=⟨_,rfl⟩
 rw[f,g]
 have m2:(if b<y - 2 then y - 2 else b)=z:=by rw[<- g];split <;> omega
 have m3:(if b<x - 20 then x - 20 else b)=max b (x - 20):=by split <;> omega
 have m4:(if z+20<t0 then z+20 else t0)=min t0 (z+20):=by split <;> omega
 have i:(if y+2<t0 then y+2 else t0)=x:=by rw[<- f];split <;> omega
 refine Zaa Tryz.func87 rfl rfl rfl rfl ?_
 by_cases c:to=1048576
 ·have b1:(!decide (to=1048576))=false:=by rw[decide_eq_true c];rfl
  rw[if_pos c]at a
  subst a
  have m1:=i
  cases up with
  | true =>
   repeat (first|(apply RL_pu;rfl;exact Zvb)|(refine js ?_;(refine bx ?_;intro e))|refine walk1 ?_)
   exact rtB
  | false =>
   repeat (first|(apply RL_pu;rfl;exact Zvb)|(refine js ?_;(refine bx ?_;intro e))|refine walk1 ?_)
   exact rtB
 ·have b1:(!decide (to=1048576))=true:=by rw[decide_eq_false c];rfl
  rw[if_neg c]at a
  have m1:(if 2000000000<to then 2000000000 else to)=t0:=by rw[<- a];split <;> omega
  clear a c
  cases up with
  | true =>
   repeat (first|(apply RL_pu;rfl;exact Zvb)|(refine js ?_;(refine bx ?_;intro e))|refine walk1 ?_)
   exact rtB
  | false =>
   repeat (first|(apply RL_pu;rfl;(first|(apply Zds;rfl;rfl;first|exact m0|exact m2|exact m3)|(apply ZgN;rfl;rfl;first|exact m1|exact i)|(apply Zan;rfl;rfl;exact b1)))|(refine js ?_;(refine bx ?_;intro e))|refine walk1 ?_)
   exact rtB
structure RnG where
 y:Int
 b:Option Zac
theorem Zhi {G:Prop}(h:G:=by(apply Zaw;rfl;rfl;exact b1)):G:=h
set_option maxHeartbeats 2000000 in
theorem Zrv (A:Option Addr)(c:Nat)(l:List DRule)(n:Int)(w:World)(hA:RdSl w A c DRule.enc 11 l)(hn:l.length<=1000000)(hR:∀ r∈l,r.from_<=4611686018427387904/\-4611686018427387904<=r.to)(ht : -4611686018427387904<=n/\n<=4611686018427387904) :
  Does Tryz.prog 46 [.slice A l.length c,.int .i64 n] w (fun v O=>v = .tuple #[evV (rbGo (Zag l) n (ZaE n) l 0 none),.bool (rbGo (Zag l) n (ZaE n) l 0 none).isSome]/\O=[]):=by
 have Y:=Zfw n
 have hyr:=fun w'=>ZjL n ht w'
 have u:=fun(i:Nat) (y:Int) (r:DRule) (t:l[i]?=some r) w' (hw:Bel w.heap.size w w')=>Zhq A c l i y r w' (hA.up hw) t
 generalize Zag l=L at *
 generalize ZaE n=yr at *
 obtain⟨R,z⟩:∃ R,rbGo L n yr l 0 none=R:=⟨_,rfl⟩
 rw[z]
 refine Zaa Tryz.func46 rfl rfl rfl rfl ?_
 repeat (first|refine walk ?_|(refine jn ?_;(try intro F);(first|(refine bx ?_;intro f)|(refine stA ?_)|(apply Zad;exact PuA));refine fin ?_)|(apply RD_W;rfl;intro f))
 generalize f=b6
 rename_i T
 refine Zai [(0,.slice A l.length c),(1,.int .i64 n),(4,.pointer (some ⟨T,0,none⟩)),(6,.pointer (some ⟨b6,0,none⟩))] [.blk T [.int .i64 0,.int .i64 0,.int .i64 0] 91]
  (fun g:BG=>[(8,.int .i64 g.k),(7,.bool g.b.isSome)]) (fun g=>[.blk b6 (evC g.b) 91]) (fun g=>g.k<=l.length/\rbGo L n yr (l.drop g.k) g.k g.b=R) (fun g=>l.length - g.k) ⟨0,none⟩ SFA SOA ⟨Nat.zero_le _,z⟩ ?_
 clear z
 rintro⟨k,b⟩ ⟨hk,t⟩
 dsimp only at hk t ⊢
 repeat (first|refine walk ?_|(refine jn ?_;(try intro F);(first|(refine bx ?_;intro f)|(refine stA ?_)|(apply Zad;exact PuA));refine fin ?_)|(apply RD_W;rfl;intro f))
 refine Zaf rfl (fun J=>?_) (fun J=>?_)
 ·simp only[decide_eq_true_eq,Int.ofNat_lt]at J
  have E:=List.getElem?_eq_getElem J
  rw[Zah J,rbGo]at t
  obtain⟨hna,hca⟩:=hA.rd k _ E
  have Q:=hR _ (List.getElem_mem J)
  have K:=fun y=>u k y _ E
  generalize l[k]=r at *
  have H:=fun w'=>Zrp r yr false Q.1 Q.2 Y w'
  have hnb : -2000000000<=(Zcx r yr).1/\(Zcx r yr).1<=4611686018427387904/\(Zcx r yr).2<=2000000002:=by
   unfold Zcx lastY
   dsimp only
   split <;> omega
  change ∀ w',Does _ _ _ w' (fun v O=>v = .tuple #[.int .i64 (Zcx r yr).1,.int .i64 (Zcx r yr).2]/\O=[]) at H
  generalize Zcx r yr=N at *
  obtain⟨S,j⟩:=N
  dsimp only at t H hnb
  obtain⟨B1,x⟩:∃ B1,rbI L n r k S (j+1 - S).toNat b=B1:=⟨_,rfl⟩
  rw[x]at t
  clear E u hR
  have M:∀ y w',Bel w.heap.size w w'->Does Tryz.prog 89 [.slice A l.length c,.int .i64 k,.int .i64 y] w' (fun v O=>v = .tuple #[evV (onR L r k y),.bool (onR L r k y).isSome]/\O=[]):=K
  clear K
  have X:∀ y m b,rbI L n r k y (m+1) b=rbI L n r k (y+1) m (upB n b (onR L r k y)):=fun y m b=>rfl
  generalize onR L r (k:Int)=on at *
  obtain⟨nm,fr,to,mo,⟨dk,dw,dd⟩,⟨cs,cb⟩,sv,le⟩:=r
  change Zau w _ [.string nm,.int .i64 fr,.int .i64 to,.int .i64 mo,.int .i64 dk,.int .i64 dw,.int .i64 dd,.int .i64 cs,.int .i64 cb,.int .i64 sv,.string le]at hca
  repeat (first|(apply RL_pu;rfl;exact PuI)|(apply RD_Q;rfl;rfl;decide +kernel;rfl;rfl;exact QyI)|refine walk1 ?_|(refine jg ?_;(try intro F);(first|(refine Zab (fun w' _=>hyr w') ?_)|(refine Zab (fun w' _=>H w') ?_)|(refine bx ?_;intro f)|(refine stA ?_));first|refine⟨_,EndsA,QFI,?_⟩|refine fin ?_)|(refine jn ?_;(try intro F);(first|(refine bx ?_;intro f)|(refine stA ?_)|(apply Zad;first|exact PuI|exact PuA));first|refine⟨_,EndsA,QFI,?_⟩|refine fin ?_)|(apply RD_W;rfl;intro f))
  refine Zai [(0,.slice A l.length c),(1,.int .i64 n),(4,.pointer (some ⟨T,0,none⟩)),(6,.pointer (some ⟨b6,0,none⟩)),(8,.int .i64 k),(10,.int .i64 j)] [.blk T [.int .i64 0,.int .i64 0,.int .i64 0] 91]
   (fun g:RnG=>[(11,.int .i64 g.y),(7,.bool g.b.isSome)]) (fun g=>[.blk b6 (evC g.b) 91]) (fun g=>S<=g.y/\(g.y<=j+1\/g.y=S)/\rbI L n _ k g.y (j+1 - g.y).toNat g.b=B1) (fun g=>(j+1 - g.y).toNat) ⟨S,b⟩ SFA SOA ⟨Int.le_refl _,.inr rfl,x⟩ ?_
  clear x
  rintro⟨y,b⟩ ⟨hy0,hy1,e⟩
  dsimp only at hy0 hy1 e ⊢
  repeat (first|refine walk ?_|(refine jn ?_;(try intro F);(first|(refine bx ?_;intro f)|(refine stA ?_)|(apply Zad;exact PuA));refine fin ?_)|(apply RD_W;rfl;intro f))
  refine Zaf rfl (fun D=>?_) (fun D=>?_)
  ·have Z:=of_decide_eq_true D
   rw[show(j+1 - y).toNat=(j+1 - (y+1)).toNat+1 by omega,X]at e
   have I:=M y
   generalize on y=o at *
   have W:=fun p q w'=>Zrq p q w'
   rcases o with _|⟨xy,xr,xn⟩
   ·simp only[evV,Zac.enc,dEv0,Option.isSome]at I
    repeat (first|refine und ?_|refine walk ?_|(refine jg ?_;(try intro F);(first|(refine Zab I ?_)|(refine bx ?_;intro f)|(refine stA ?_));refine fin ?_)|(refine jn ?_;(try intro F);(first|(refine bx ?_;intro f)|(refine stA ?_)|(apply Zad;exact PuA));refine fin ?_)|(apply RD_W;rfl;intro f))
    exact⟨⟨y+1,b⟩,OA,⟨by dsimp only;omega,.inl (by dsimp only;omega),e⟩,SFA,SOA⟩
   ·simp only[evV,Zac.enc,Option.isSome]at I
    by_cases U:xn<n
    ·have b1:decide (xn<n)=true:=decide_eq_true U
     rw[Zxo U]at e
     rcases b with _|⟨by_,br,bn⟩
     ·replace e:rbI L n _ k (y+1) (j+1 - (y+1)).toNat (some ⟨xy,xr,xn⟩)=B1:=e
      simp only[evC,Zac.enc,dEv0,Option.isSome]
      repeat (first|refine und ?_|(apply RL_pu;rfl;exact Zhi)|(apply RD_Q;rfl;rfl;decide +kernel;rfl;rfl;exact QyRhA4)|refine walk1 ?_|(refine jg ?_;(try intro F);(first|(refine Zab I ?_)|(refine bx ?_;intro f)|(refine stA ?_));first|refine⟨_,EndsA,QFRhA4,?_⟩|refine fin ?_)|(refine jn ?_;(try intro F);(first|(refine bx ?_;intro f)|(refine stA ?_)|(apply Zad;first|exact Zhi|exact PuA));first|refine⟨_,EndsA,QFRhA4,?_⟩|refine fin ?_)|(apply RD_W;rfl;intro f))
      exact⟨⟨y+1,some ⟨xy,xr,xn⟩⟩,OA,⟨by dsimp only;omega,.inl (by dsimp only;omega),e⟩,SFA,SOA⟩
     ·simp only[evC,Zac.enc,Option.isSome]
      have s:=fun w'=>W ⟨by_,br,bn⟩ ⟨xy,xr,xn⟩ w'
      cases hq:ltE ⟨by_,br,bn⟩ ⟨xy,xr,xn⟩ with
      | true =>
       rw[Zt6 hq]at e
       rw[hq]at s
       simp only[Zac.enc]at s
       repeat (first|refine und ?_|(apply RL_pu;rfl;exact Zhi)|(apply RD_Q;rfl;rfl;decide +kernel;rfl;rfl;exact QyRhA4)|refine walk1 ?_|(refine jg ?_;(try intro F);(first|(refine Zab I ?_)|(refine Zab (fun w' _=>s w') ?_)|(refine bx ?_;intro f)|(refine stA ?_));first|refine⟨_,EndsA,QFRhA4,?_⟩|refine fin ?_)|(refine jn ?_;(try intro F);(first|(refine bx ?_;intro f)|(refine stA ?_)|(apply Zad;first|exact Zhi|exact PuA));first|refine⟨_,EndsA,QFRhA4,?_⟩|refine fin ?_)|(apply RD_W;rfl;intro f))
       exact⟨⟨y+1,some ⟨xy,xr,xn⟩⟩,OA,⟨by dsimp only;omega,.inl (by dsimp only;omega),e⟩,SFA,SOA⟩
      | false =>
       rw[ZBf hq]at e
       rw[hq]at s
       simp only[Zac.enc]at s
       repeat (first|refine und ?_|(apply RL_pu;rfl;exact Zhi)|(apply RD_Q;rfl;rfl;decide +kernel;rfl;rfl;exact QyRhA4)|refine walk1 ?_|(refine jg ?_;(try intro F);(first|(refine Zab I ?_)|(refine Zab (fun w' _=>s w') ?_)|(refine bx ?_;intro f)|(refine stA ?_));first|refine⟨_,EndsA,QFRhA4,?_⟩|refine fin ?_)|(refine jn ?_;(try intro F);(first|(refine bx ?_;intro f)|(refine stA ?_)|(apply Zad;first|exact Zhi|exact PuA));first|refine⟨_,EndsA,QFRhA4,?_⟩|refine fin ?_)|(apply RD_W;rfl;intro f))
       exact⟨⟨y+1,some ⟨by_,br,bn⟩⟩,OA,⟨by dsimp only;omega,.inl (by dsimp only;omega),e⟩,SFA,SOA⟩
    ·have b1:decide (xn<n)=false:=decide_eq_false U
     rw[Zxp U]at e
     repeat (first|refine und ?_|(apply RL_pu;rfl;exact Zhi)|(apply RD_Q;rfl;rfl;decide +kernel;rfl;rfl;exact QyRhA4)|refine walk1 ?_|(refine jg ?_;(try intro F);(first|(refine Zab I ?_)|(refine bx ?_;intro f)|(refine stA ?_));first|refine⟨_,EndsA,QFRhA4,?_⟩|refine fin ?_)|(refine jn ?_;(try intro F);(first|(refine bx ?_;intro f)|(refine stA ?_)|(apply Zad;first|exact Zhi|exact PuA));first|refine⟨_,EndsA,QFRhA4,?_⟩|refine fin ?_)|(apply RD_W;rfl;intro f))
     exact⟨⟨y+1,b⟩,OA,⟨by dsimp only;omega,.inl (by dsimp only;omega),e⟩,SFA,SOA⟩
  ·have Z:=of_decide_eq_false D
   rw[show(j+1 - y).toNat=0 by omega]at e
   obtain rfl:b=B1:=e
   repeat (first|refine walk ?_|(refine jn ?_;(try intro F);(first|(refine bx ?_;intro f)|(refine stA ?_)|(apply Zad;exact PuA));refine fin ?_)|(apply RD_W;rfl;intro f))
   exact⟨⟨k+1,b⟩,OA,⟨OA,t⟩,SFA,SOA⟩
 ·simp only[decide_eq_false_iff_not,Int.ofNat_lt]at J
  rw[List.drop_eq_nil_of_le (by omega),rbGo]at t
  subst t
  rcases b with _|⟨by_,br,bn⟩ <;> simp only[evV,evC,Zac.enc,dEv0,Option.isSome]
  ·repeat (first|refine walk ?_|(refine jn ?_;(try intro F);(first|(refine bx ?_;intro f)|(refine stA ?_)|(apply Zad;exact PuA));refine fin ?_)|(apply RD_W;rfl;intro f))
   exact rtC
  ·repeat (first|refine walk ?_|(refine jn ?_;(try intro F);(first|(refine bx ?_;intro f)|(refine stA ?_)|(apply Zad;exact PuA));refine fin ?_)|(apply RD_W;rfl;intro f))
   exact rtC
end Go.Proofs.YtpipekfmecikmaaGreatDoor
set_option maxHeartbeats 4000000
namespace Go.Proofs.YtpipekfmecikmaaGreatDoor
open Go Go.RowKit Go.Wk
attribute [local irreducible] W RL Does Zat Zaj retQ Calls Pu Stp RD Qy Ay Zak RLI WI
theorem ZrM (Ar Az Al As:Option Addr)(f j e cs:Nat)(a:DSource)(b:ByteArray)(w:World)(q:Zal w Ar Az Al As f j e cs a)(E:a.zones.length+a.links.length<=1000000) :
  Does Tryz.prog 105 [srcV Ar Az Al As f j e cs a,.string b] w (fun v O=>v = .tuple #[.int .i64 (ZaJ a (a.links.length+1) [] b).1,.int .i64 (ZaJ a (a.links.length+1) [] b).2]/\O=[]):=by
 obtain⟨p,c⟩:∃ p,ZaJ a (a.links.length+1) [] b=p:=⟨_,rfl⟩
 rw[c]
 refine Zaa Tryz.func105 rfl rfl rfl rfl ?_
 repeat (first|refine walk ?_|(refine jg ?_;(try intro F);(first|(apply Zae (h:=fun w' m _=>Zig Ar Az Al As f j e cs a w' (q.up m) (by omega));rfl;rintro v O' ⟨r,m1,rfl,rfl,y,D,H⟩)|(apply Zae (h:=fun w' m _=>ZfN Ar Az Al As f j e cs a w' (q.up m) (by omega));rfl;rintro v O' ⟨s,m2,rfl,rfl,i2,x,z⟩)|(refine ZaH (fun w' m t=>Zis Ar Az Al As f j e cs a r s m1 m2 b w' (q.up m) (t.of (A := .mp r m1) (by repeat' constructor)) (t.of (A := .mp s m2) (by repeat' constructor)) y i2 x z) ?_)|(refine bx ?_;intro u));refine fin ?_)|(refine jn ?_;(try intro F);(first|(refine bx ?_;intro u)|(apply Zad;exact PuA));refine fin ?_))
 rw[c]
 exact rtB
end Go.Proofs.YtpipekfmecikmaaGreatDoor
namespace Go.Proofs.YtpipekfmecikmaaGreatDoor
open Go Go.RowKit Go.Wk
attribute [local irreducible] W RL Does Zat Zaj retQ Calls Pu Stp RD Qy Ay Zak
theorem Zq6 (Ar Az Al As:Option Addr)(d f c cs:Nat)(a:DSource)(b:ByteArray)(p:Zaq)(e:Int)(w:World)(h:Zcb w Ar Az Al As d f c cs a)(i:accD a=some (p,e)) :
  Does Tryz.prog 58 [srcV Ar Az Al As d f c cs a,.string b] w (fun v O=>v = .tuple #[.int .i64 0,.int .i64 e]/\O=[]):=by
 have j:=fun w' (g:Bel w.heap.size w w')=>ZCj Ar Az Al As d f c cs a p e w' (h.up g) i
 have m:(!decide (e=0))=true:=by rw[decide_eq_false (Zo8 i)];rfl
 refine Zaa Tryz.func58 rfl rfl rfl rfl ?_
 repeat (first|(apply RL_pu;rfl;(apply Zan;rfl;rfl;exact m))|(refine js ?_;(first|(apply Zae (h:=fun w' g _=>j w' g);rfl;rintro v O' ⟨⟨r,s,t,rfl⟩,rfl⟩)|(refine bx ?_;intro q)))|refine walk1 ?_)
 exact rtB
theorem Zsq (Ar Az Al As:Option Addr)(d e c cs:Nat)(a:DSource)(b:ByteArray)(w:World)(h:Zcb w Ar Az Al As d e c cs a)(i:accD a=none)(m:a.zones.length+a.links.length<=1000000) :
  Does Tryz.prog 58 [srcV Ar Az Al As d e c cs a,.string b] w (fun v O=>v = .tuple #[.int .i64 (ZaJ a (a.links.length+1) [] b).1,.int .i64 (ZaJ a (a.links.length+1) [] b).2]/\O=[]):=by
 have g:=fun w' (f:Bel w.heap.size w w')=>ZCi Ar Az Al As d e c cs a w' (h.up f) i
 have j:=fun w' (f:Bel w.heap.size w w')=>ZrM Ar Az Al As d e c cs a b w' (h.A.up f) m
 generalize ZaJ a (a.links.length+1) [] b=x at *
 refine Zaa Tryz.func58 rfl rfl rfl rfl ?_
 repeat (first|(refine js ?_;(first|(refine Zab g ?_)|(refine Zab j ?_)|(refine bx ?_;intro p)))|refine walk ?_)
 exact rtB
def tOk (t:Int):Bool:=decide (-36028797018963968<=t)&&decide (t<=36028797018963968)
theorem Zef {t:Int}:tOk t=true↔-36028797018963968<=t/\t<=36028797018963968:=by unfold tOk;simp
def FdE (e:Int)(v:Value)(O:List It):Prop:=v = .tuple #[.agg #[.string ByteArray.empty,.slice none 0 0],.int .i64 0,.int .i64 e]/\O=[]
theorem ZvF {G:Prop}(h:G:=by(apply Zaw;rfl;rfl;exact b1)):G:=h
theorem ZqZ {G:Prop}(h:G:=by(first|exact ZvF|(apply Zay;rfl;rfl;exact b2))):G:=h
theorem Zj8 (Ar Az Al As:Option Addr)(g j f cs:Nat)(a:DSource)(b:ByteArray)(t:Int)(w:World)(e:tOk t=false) :
  Does Tryz.prog 51 [srcV Ar Az Al As g j f cs a,.string b,.int .i64 t] w (FdE 3):=by
 refine Zaa Tryz.func51 rfl rfl rfl rfl ?_
 by_cases d:t < -36028797018963968
 ·have b1:decide (t < -36028797018963968)=true:=decide_eq_true d
  repeat (first|refine und ?_|(apply RL_pu;rfl;exact ZvF)|(apply RD_Q;rfl;rfl;decide +kernel;rfl;rfl;exact QyMeB1)|refine walk1 ?_|(refine jn ?_;(try intro F);(first|(refine bx ?_;intro c)|(refine stA ?_)|(apply Zad;first|exact ZvF|exact PuA));first|refine⟨_,EndsA,QFMeB1,?_⟩|refine fin ?_)|(apply RD_W;rfl;intro c))
  exact Zdl _ _ _ [] (.cellB rfl (by repeat' constructor) rfl rfl) (.tmp rfl) (.tmp rfl) .nil ⟨rfl,rfl⟩
 ·have b1:decide (t < -36028797018963968)=false:=decide_eq_false d
  have b2:decide (36028797018963968<t)=true:=by
   refine decide_eq_true (Int.not_le.1 fun m=>?_)
   rw[Zef.2 ⟨by omega,m⟩]at e
   cases e
  repeat (first|refine und ?_|(apply RL_pu;rfl;exact ZqZ)|(apply RD_Q;rfl;rfl;decide +kernel;rfl;rfl;exact QyMeB2)|refine walk1 ?_|(refine jn ?_;(try intro F);(first|(refine bx ?_;intro c)|(refine stA ?_)|(apply Zad;first|exact ZqZ|exact PuA));first|refine⟨_,EndsA,QFMeB2,?_⟩|refine fin ?_)|(apply RD_W;rfl;intro c))
  exact Zdl _ _ _ [] (.cellB rfl (by repeat' constructor) rfl rfl) (.tmp rfl) (.tmp rfl) .nil ⟨rfl,rfl⟩
theorem Zzq {G:Prop}(h:G:=by(first|exact ZqZ|(apply Zan;rfl;rfl;exact b3))):G:=h
theorem ZmV (Ar Az Al As:Option Addr)(j m f cs:Nat)(a:DSource)(b:ByteArray)(t z0 e:Int)(w:World)(q:tOk t=true)(p:e≠0)
  (r:∀ w',Bel w.heap.size w w'->Does Tryz.prog 58 [srcV Ar Az Al As j m f cs a,.string b] w' (fun v O=>v = .tuple #[.int .i64 z0,.int .i64 e]/\O=[])) :
  Does Tryz.prog 51 [srcV Ar Az Al As j m f cs a,.string b,.int .i64 t] w (FdE e):=by
 have s:=Zef.1 q
 have b1:decide (t < -36028797018963968)=false:=decide_eq_false (by omega)
 have b2:decide (36028797018963968<t)=false:=decide_eq_false (by omega)
 have b3:(!decide (e=0))=true:=by rw[decide_eq_false p];rfl
 refine Zaa Tryz.func51 rfl rfl rfl rfl ?_
 repeat (first|refine und ?_|(apply RL_pu;rfl;exact Zzq)|(apply RD_Q;rfl;rfl;decide +kernel;rfl;rfl;exact QyMeB3)|refine walk1 ?_|(refine jg ?_;(try intro F);(first|(refine Zab r ?_)|(refine bx ?_;intro c)|(refine stA ?_));first|refine⟨_,EndsA,QFMeB3,?_⟩|refine fin ?_)|(refine jn ?_;(try intro F);(first|(refine bx ?_;intro c)|(refine stA ?_)|(apply Zad;first|exact Zzq|exact PuA));first|refine⟨_,EndsA,QFMeB3,?_⟩|refine fin ?_)|(apply RD_W;rfl;intro c))
 exact Zdl _ _ _ [] (.cellB rfl (by repeat' constructor) rfl rfl) (.tmp rfl) (.tmp rfl) .nil ⟨rfl,rfl⟩
theorem ZvE {G:Prop}(h:G:=by(first|exact ZqZ|(apply Pu_indexAddr;rfl;rfl;omega;omega;exact hnz)|(apply Pu_loadON;rfl;exact hcz;rfl))):G:=h
theorem Zyg {G:Prop}(h:G:=by first|(apply Qy_y;rfl;exact ZvE)|exact QyA):G:=h
theorem Zyw {G:Prop}(h:G:=by repeat (first|exact QF.nil|(apply QF.mk;rfl;rfl;decide +kernel;exact Zyg))):G:=h
theorem ZtQ (Ar Az Al As:Option Addr)(m p j cs:Nat)(a:DSource)(name:ByteArray)(t:Int)(i:Nat)(z:DZone)(l:List Zba)(x:Zba)(Ae:Option Addr)(y:Nat)(w:World)(h:Zcb w Ar Az Al As m p j cs a)(M:tOk t=true)
  (N:∀ w',Bel w.heap.size w w'->Does Tryz.prog 58 [srcV Ar Az Al As m p j cs a,.string name] w' (fun v O=>v = .tuple #[.int .i64 i,.int .i64 0]/\O=[]))
  (q:a.zones[i]?=some z) (hnz:Az≠none) (hcz:Zau w ((adr Az).add (i*2)) [.string z.name,.slice Ae z.eras.length y])
  (D:∀ k e,z.eras[k]?=some e->k+1<z.eras.length->RsSm (ruEr a.rules e)/\UnOk e (ruEr a.rules e)) (E:ZkN a.rules z.eras=some l) (hx:Zfz l t=(x,true)) :
  Does Tryz.prog 51 [srcV Ar Az Al As m p j cs a,.string name,.int .i64 t] w (fun v O=>v = .tuple #[.agg #[.string z.name,.slice Ae z.eras.length y],.int .i64 x.era,.int .i64 0]/\O=[]):=by
 have Q:=Zef.1 M
 have b1:decide (t < -36028797018963968)=false:=decide_eq_false (by omega)
 have b2:decide (36028797018963968<t)=false:=decide_eq_false (by omega)
 have K:i<a.zones.length:=(List.getElem?_eq_some_iff.1 q).1
 have L:=h.A.zle
 have r:=h.A.zcap
 simp only[maxLen]at r
 have s:=fun w' (f:Bel w.heap.size w w')=>Zrd Ar Az Al As m p j cs a i z l w' (h.G.up f) (h.A.up f) h.S.nr (h.S.zs z (List.mem_of_getElem? q)).2.1 q D E
 have b:=fun(A:Option Addr) (c:Nat) w' (J:RdSl w' A c Zba.enc 3 l)=>Zn4 A c l t w' J
 rw[hx]at b
 clear hx E D q
 obtain⟨R,T,U⟩:=x
 simp only[Zba.enc]at b
 refine Zaa Tryz.func51 rfl rfl rfl rfl ?_
 repeat (first|refine und ?_|(apply RL_pu;rfl;exact ZvE)|(apply RD_Q;rfl;rfl;decide +kernel;rfl;rfl;exact Zyg)|refine walk1 ?_|(refine jg ?_;(try intro F);(first|(refine Zab N ?_)|(apply Zae (h:=fun w' f _=>s w' f);rfl;rintro v O' ⟨A3,H,rfl,rfl⟩)|(refine ZaH (fun w' f I=>b A3 H w' (ZaP Zba.len (I.of (by repeat' constructor)))) ?_)|(refine bx ?_;intro u)|(refine stA ?_));first|refine⟨_,EndsA,Zyw,?_⟩|refine fin ?_)|(refine jn ?_;(try intro F);(first|(refine bx ?_;intro u)|(refine stA ?_)|(apply Zad;first|exact ZvE|exact PuA));first|refine⟨_,EndsA,Zyw,?_⟩|refine fin ?_)|(apply RD_W;rfl;intro u))
 exact Zdl _ _ _ [] (.cellB rfl (by repeat' constructor) rfl rfl) (.tmp rfl) (.tmp rfl) .nil ⟨rfl,rfl⟩
theorem ZiM (Ar Az Al As:Option Addr)(d f c cs:Nat)(a:DSource)(b:ByteArray)(t:Int)(j:ByteArray)(Ae:Option Addr)(ne g:Nat)(k e:Int)(w:World)
  (i:∀ w',Bel w.heap.size w w'->Does Tryz.prog 51 [srcV Ar Az Al As d f c cs a,.string b,.int .i64 t] w' (fun v O=>v = .tuple #[.agg #[.string j,.slice Ae ne g],.int .i64 k,.int .i64 e]/\O=[])) :
  Does Tryz.prog 17 [srcV Ar Az Al As d f c cs a,.string b,.int .i64 t] w (fun v O=>v = .tuple #[.int .i64 k,.int .i64 e]/\O=[]):=by
 refine Zaa Tryz.func17 rfl rfl rfl rfl ?_
 repeat (first|(refine js ?_;(first|(refine Zab i ?_)|(refine bx ?_;intro m)))|refine walk ?_)
 exact rtB
theorem ZqY {G:Prop}(h:G:=by(apply Zan;rfl;rfl;exact b3)):G:=h
theorem Zqo (Ar Az Al As:Option Addr)(j m f cs:Nat)(a:DSource)(b:ByteArray)(t e:Int)(w:World)(p:e≠0)
  (q:∀ w',Bel w.heap.size w w'->Does Tryz.prog 51 [srcV Ar Az Al As j m f cs a,.string b,.int .i64 t] w' (FdE e)) :
  Does Tryz.prog 15 [srcV Ar Az Al As j m f cs a,.string b,.int .i64 t] w (fun v O=>v = .tuple #[.agg lc0.enc.toArray,.int .i64 e]/\O=[]):=by
 have b3:(!decide (e=0))=true:=by rw[decide_eq_false p];rfl
 refine Zaa Tryz.func15 rfl rfl rfl rfl ?_
 repeat (first|(apply RL_pu;rfl;exact ZqY)|(apply RD_Q;rfl;rfl;decide +kernel;rfl;rfl;exact QyMeB5)|refine walk1 ?_|(refine jg ?_;(try intro F);(first|(refine Zab q ?_)|(refine bx ?_;intro c)|(refine stA ?_));first|refine⟨_,EndsA,QFMeB5,?_⟩|refine fin ?_)|(refine jn ?_;(try intro F);(first|(refine bx ?_;intro c)|(refine stA ?_)|(apply Zad;first|exact ZqY|exact PuA));first|refine⟨_,EndsA,QFMeB5,?_⟩|refine fin ?_)|(apply RD_W;rfl;intro c))
 exact rtC
theorem ZAj (Ar Az Al As:Option Addr)(e f c cs:Nat)(a:DSource)(b:ByteArray)(t:Int)(N:ByteArray)(Ae:Option Addr)(q:Nat)(l:List DEra)(k:Nat)(x:DEra)(y:Zbe)(w:World)
  (D:∀ w',Bel w.heap.size w w'->Does Tryz.prog 51 [srcV Ar Az Al As e f c cs a,.string b,.int .i64 t] w' (fun v O=>v = .tuple #[.agg #[.string N,.slice Ae l.length q],.int .i64 k,.int .i64 0]/\O=[]))
  (j:RdSl w Ae q DEra.enc 13 l) (hx:l[k]?=some x)
  (r:∀ w',Bel w.heap.size w w'->Does Tryz.prog 52 [srcV Ar Az Al As e f c cs a,.agg x.enc.toArray,.int .i64 t] w' (fun v O=>v = .tuple #[.agg y.enc.toArray,.int .i64 0]/\O=[])) :
  Does Tryz.prog 15 [srcV Ar Az Al As e f c cs a,.string b,.int .i64 t] w (fun v O=>v = .tuple #[.agg y.enc.toArray,.int .i64 0]/\O=[]):=by
 have z:=j.le
 have m:=j.cap
 simp only[maxLen]at m
 have E:k<l.length:=(List.getElem?_eq_some_iff.1 hx).1
 obtain⟨hna,hca⟩:=j.rd k _ hx
 obtain⟨H,R,u,s,Q,⟨S,U,T,⟨K,L,M⟩,⟨I,J⟩⟩⟩:=x
 obtain⟨W,X,Y⟩:=y
 simp only[DEra.enc,Zbe.enc]at hca r ⊢
 refine Zaa Tryz.func15 rfl rfl rfl rfl ?_
 repeat (first|(apply RL_pu;rfl;exact PuI)|(apply RD_Q;rfl;rfl;decide +kernel;rfl;rfl;exact QyI)|refine walk1 ?_|(refine jg ?_;(try intro F);(first|(refine Zab D ?_)|(refine Zab r ?_)|(refine bx ?_;intro p)|(refine stA ?_));first|refine⟨_,EndsA,QFI,?_⟩|refine fin ?_)|(refine jn ?_;(try intro F);(first|(refine bx ?_;intro p)|(refine stA ?_)|(apply Zad;first|exact PuI|exact PuA));first|refine⟨_,EndsA,QFI,?_⟩|refine fin ?_)|(apply RD_W;rfl;intro p))
 exact rtC
theorem ZoK (Ar Az Al As:Option Addr)(j m f cs:Nat)(a:DSource)(b:ByteArray)(z0 e:Int)(w:World)(p:e≠0)
  (q:∀ w',Bel w.heap.size w w'->Does Tryz.prog 58 [srcV Ar Az Al As j m f cs a,.string b] w' (fun v O=>v = .tuple #[.int .i64 z0,.int .i64 e]/\O=[])) :
  Does Tryz.prog 19 [srcV Ar Az Al As j m f cs a,.string b] w (fun v O=>v = .tuple #[.agg lc0.enc.toArray,.int .i64 e]/\O=[]):=by
 have b3:(!decide (e=0))=true:=by rw[decide_eq_false p];rfl
 refine Zaa Tryz.func19 rfl rfl rfl rfl ?_
 repeat (first|(apply RL_pu;rfl;exact ZqY)|(apply RD_Q;rfl;rfl;decide +kernel;rfl;rfl;exact QyMeB5)|refine walk1 ?_|(refine jg ?_;(try intro F);(first|(refine Zab q ?_)|(refine bx ?_;intro c)|(refine stA ?_));first|refine⟨_,EndsA,QFMeB5,?_⟩|refine fin ?_)|(refine jn ?_;(try intro F);(first|(refine bx ?_;intro c)|(refine stA ?_)|(apply Zad;first|exact ZqY|exact PuA));first|refine⟨_,EndsA,QFMeB5,?_⟩|refine fin ?_)|(apply RD_W;rfl;intro c))
 exact rtC
theorem ZvD {G:Prop}(h:G:=by(first|(apply Pu_indexAddr;rfl;rfl;omega;omega;exact hnz)|exact PuI|(apply Pu_loadO1;rfl;exact hcz 1 _ rfl))):G:=h
theorem Zyf {G:Prop}(h:G:=by first|(apply Qy_y;rfl;exact ZvD)|exact QyA):G:=h
theorem Zyv {G:Prop}(h:G:=by repeat (first|exact QF.nil|(apply QF.mk;rfl;rfl;decide +kernel;exact Zyf))):G:=h
theorem ZrV (Ar Az Al As:Option Addr)(c e b cs:Nat)(a:DSource)(name:ByteArray)(i:Nat)(z:DZone)(Ae:Option Addr)(q:Nat)(x:DEra)(y:Zbe)(w:World)(r:Zal w Ar Az Al As c e b cs a)
  (K:∀ w',Bel w.heap.size w w'->Does Tryz.prog 58 [srcV Ar Az Al As c e b cs a,.string name] w' (fun v O=>v = .tuple #[.int .i64 i,.int .i64 0]/\O=[]))
  (E:a.zones[i]?=some z) (hnz:Az≠none) (hcz:Zau w ((adr Az).add (i*2)) [.string z.name,.slice Ae z.eras.length q]) (f:RdSl w Ae q DEra.enc 13 z.eras) (hx:z.eras[0]?=some x)
  (s:∀ w',Bel w.heap.size w w'->Does Tryz.prog 52 [srcV Ar Az Al As c e b cs a,.agg x.enc.toArray,.int .i64 0] w' (fun v O=>v = .tuple #[.agg y.enc.toArray,.int .i64 0]/\O=[])) :
  Does Tryz.prog 19 [srcV Ar Az Al As c e b cs a,.string name] w (fun v O=>v = .tuple #[.agg y.enc.toArray,.int .i64 0]/\O=[]):=by
 have D:=f.le
 have j:=f.cap
 have H:i<a.zones.length:=(List.getElem?_eq_some_iff.1 E).1
 have J:=r.zle
 have m:=r.zcap
 simp only[maxLen]at j m
 have I:0<z.eras.length:=(List.getElem?_eq_some_iff.1 hx).1
 obtain⟨hna,hca⟩:=f.rd 0 _ hx
 obtain⟨L,U,u,t,T,⟨W,Y,X,⟨Q,R,S⟩,⟨M,N⟩⟩⟩:=x
 obtain⟨Z,y2,y3⟩:=y
 simp only[DEra.enc,Zbe.enc]at hca s ⊢
 refine Zaa Tryz.func19 rfl rfl rfl rfl ?_
 repeat (first|(apply RL_pu;rfl;exact ZvD)|(apply RD_Q;rfl;rfl;decide +kernel;rfl;rfl;exact Zyf)|refine walk1 ?_|(refine jg ?_;(try intro F);(first|(refine Zab K ?_)|(refine Zab s ?_)|(refine bx ?_;intro p)|(refine stA ?_));first|refine⟨_,EndsA,Zyv,?_⟩|refine fin ?_)|(refine jn ?_;(try intro F);(first|(refine bx ?_;intro p)|(refine stA ?_)|(apply Zad;first|exact ZvD|exact PuA));first|refine⟨_,EndsA,Zyv,?_⟩|refine fin ?_)|(apply RD_W;rfl;intro p))
 exact rtC
def Za9 (a:DSource)(name:ByteArray):Int × Int:=match accD a with
 | some (_,e)=>(0,e)
 | none=>(((ZaJ a (a.links.length+1) [] name).1:Nat),(ZaJ a (a.links.length+1) [] name).2)
structure MnOk (a:DSource):Prop where
 acc:accD a=none
 un:∀ z∈a.zones,∀ k e,z.eras[k]?=some e->k+1<z.eras.length->RsSm (ruEr a.rules e)/\UnOk e (ruEr a.rules e)
 ne:∀ z∈a.zones,z.eras≠[]
 sp:∀ z∈a.zones,∃ r,ZkN a.rules z.eras=some r
 lc:∀ z∈a.zones,∀ e∈z.eras,LcOk a.rules e
 st:∀ z∈a.zones,∀ e∈z.eras,∀ t,(-1000000000<=(ZaZ a.rules e t).1/\(ZaZ a.rules e t).1<=1000000000)/\(ZaZ a.rules e t).2.size<=1000000000/\abE e (ZaZ a.rules e t)=0
section
variable (Ar Az Al As:Option Addr)(cr cz cl cs:Nat)(a:DSource)(name:ByteArray)(t:Int)(w:World)
theorem ZdI (h:Zcb w Ar Az Al As cr cz cl cs a)(b:a.zones.length+a.links.length<=1000000) :
  Does Tryz.prog 58 [srcV Ar Az Al As cr cz cl cs a,.string name] w (fun v O=>v = .tuple #[.int .i64 (Za9 a name).1,.int .i64 (Za9 a name).2]/\O=[]):=by
 unfold Za9
 cases ha:accD a with
 | some x =>
  obtain⟨p,e⟩:=x
  exact Zq6 Ar Az Al As cr cz cl cs a name p e w h ha
 | none=>exact Zsq Ar Az Al As cr cz cl cs a name w h ha b
theorem Zxz (b:tOk t=false):Does Tryz.prog 15 [srcV Ar Az Al As cr cz cl cs a,.string name,.int .i64 t] w (fun v O=>v = .tuple #[.agg lc0.enc.toArray,.int .i64 3]/\O=[]) :=
 Zqo Ar Az Al As cr cz cl cs a name t 3 w (by decide) fun w' _=>Zj8 Ar Az Al As cr cz cl cs a name t w' b
theorem ZzU (b:tOk t=false):Does Tryz.prog 17 [srcV Ar Az Al As cr cz cl cs a,.string name,.int .i64 t] w (fun v O=>v = .tuple #[.int .i64 0,.int .i64 3]/\O=[]) :=
 ZiM Ar Az Al As cr cz cl cs a name t ByteArray.empty none 0 0 0 3 w fun w' _=>Zj8 Ar Az Al As cr cz cl cs a name t w' b
theorem ZAY (h:Zcb w Ar Az Al As cr cz cl cs a)(d:a.zones.length+a.links.length<=1000000)(e:tOk t=true)(c:(Za9 a name).2≠0) :
  Does Tryz.prog 15 [srcV Ar Az Al As cr cz cl cs a,.string name,.int .i64 t] w (fun v O=>v = .tuple #[.agg lc0.enc.toArray,.int .i64 (Za9 a name).2]/\O=[]) :=
 Zqo Ar Az Al As cr cz cl cs a name t _ w c fun w' f=>ZmV Ar Az Al As cr cz cl cs a name t _ _ w' e c fun g b=>ZdI Ar Az Al As cr cz cl cs a name g ((h.up f).up b) d
theorem ZAX (h:Zcb w Ar Az Al As cr cz cl cs a)(d:a.zones.length+a.links.length<=1000000)(e:tOk t=true)(c:(Za9 a name).2≠0) :
  Does Tryz.prog 17 [srcV Ar Az Al As cr cz cl cs a,.string name,.int .i64 t] w (fun v O=>v = .tuple #[.int .i64 0,.int .i64 (Za9 a name).2]/\O=[]) :=
 ZiM Ar Az Al As cr cz cl cs a name t ByteArray.empty none 0 0 0 _ w fun w' f=>ZmV Ar Az Al As cr cz cl cs a name t _ _ w' e c fun g b=>ZdI Ar Az Al As cr cz cl cs a name g ((h.up f).up b) d
theorem ZwD (h:Zcb w Ar Az Al As cr cz cl cs a)(c:a.zones.length+a.links.length<=1000000)(b:(Za9 a name).2≠0) :
  Does Tryz.prog 19 [srcV Ar Az Al As cr cz cl cs a,.string name] w (fun v O=>v = .tuple #[.agg lc0.enc.toArray,.int .i64 (Za9 a name).2]/\O=[]) :=
 ZoK Ar Az Al As cr cz cl cs a name _ _ w b fun w' d=>ZdI Ar Az Al As cr cz cl cs a name w' (h.up d) c
theorem ZlK (h:Zcb w Ar Az Al As cr cz cl cs a)(b:a.zones.length+a.links.length<=1000000){i:Nat}(c:Za9 a name=(((i:Nat):Int),0)) :
  Does Tryz.prog 58 [srcV Ar Az Al As cr cz cl cs a,.string name] w (fun v O=>v = .tuple #[.int .i64 i,.int .i64 0]/\O=[]):=by
 have:=ZdI Ar Az Al As cr cz cl cs a name w h b
 rwa[c]at this
theorem Zmr (h:Zcb w Ar Az Al As cr cz cl cs a)(i:MeG w)(m:MnOk a){z:DZone}(c:z∈a.zones){e:DEra}(b:e∈z.eras)(j : -1000000000000000000<=t/\t<=1000000000000000000) :
  Does Tryz.prog 52 [srcV Ar Az Al As cr cz cl cs a,.agg e.enc.toArray,.int .i64 t] w (fun v O=>v = .tuple #[.agg (Zes e (ZaZ a.rules e t)).enc.toArray,.int .i64 0]/\O=[]):=by
 obtain⟨d,f,g⟩:=m.st z c e b t
 exact ZmA Ar Az Al As cr cz cl cs a e t w h.L h.G i h.A h.S.nr (m.lc z c e b) j d f g
theorem ZAW (h:Zcb w Ar Az Al As cr cz cl cs a)(l:a.zones.length+a.links.length<=1000000)(m:MnOk a)(j:tOk t=true){i:Nat}{z:DZone}(p:Za9 a name=(((i:Nat):Int),0))(f:a.zones[i]?=some z)(Ae:Option Addr)(c:Nat)(e:Az≠none)(d:Zau w ((adr Az).add (i*2)) [.string z.name,.slice Ae z.eras.length c]) :
  Does Tryz.prog 51 [srcV Ar Az Al As cr cz cl cs a,.string name,.int .i64 t] w (fun v O=>v = .tuple #[.agg #[.string z.name,.slice Ae z.eras.length c],.int .i64 (Zfa a.rules z.eras t),.int .i64 0]/\O=[]):=by
 have b:=List.mem_of_getElem? f
 have q:=Zef.1 j
 obtain⟨r,g⟩:=m.sp z b
 obtain⟨x,_,_,k,o,_⟩:=ZkM g (m.ne z b) (t:=t) (by omega) (by omega)
 have:=ZtQ Ar Az Al As cr cz cl cs a name t i z r x Ae c w h j (fun w' n=>ZlK Ar Az Al As cr cz cl cs a name w' (h.up n) l p) f e d (m.un z b) g k
 rwa[o]at this
theorem mAt (h:Zcb w Ar Az Al As cr cz cl cs a)(q:MeG w)(y:a.zones.length+a.links.length<=1000000)(m:MnOk a)(o:tOk t=true){i:Nat}{z:DZone}(C:Za9 a name=(((i:Nat):Int),0))(j:a.zones[i]?=some z) :
  Does Tryz.prog 15 [srcV Ar Az Al As cr cz cl cs a,.string name,.int .i64 t] w (fun v O=>v = .tuple #[.agg (Zij a.rules z.eras t).enc.toArray,.int .i64 0]/\O=[]):=by
 have b:=List.mem_of_getElem? j
 have D:=Zef.1 o
 obtain⟨k,p,⟨Ae,l,f,rfl⟩,g⟩:=h.A.z i _ j
 obtain⟨r,B⟩:=m.sp z b
 obtain⟨x,u,_⟩:=ZkM B (m.ne z b) (t:=t) (by omega) (by omega)
 obtain⟨e,n,s⟩:=ZoH (d:=dE0) u
 unfold Zij
 rw[s]
 exact ZAj Ar Az Al As cr cz cl cs a name t z.name Ae l z.eras (Zfa a.rules z.eras t) e _ w (fun w' c=>ZAW Ar Az Al As cr cz cl cs a name t w' (h.up c) y m o C j Ae l k (g.up c (Nat.le_refl _))) f n fun w' c=>Zmr Ar Az Al As cr cz cl cs a t w' (h.up c) (q.up c) m b (List.mem_of_getElem? n) (by omega)
theorem mEra (h:Zcb w Ar Az Al As cr cz cl cs a)(k:a.zones.length+a.links.length<=1000000)(m:MnOk a)(l:tOk t=true){i:Nat}{z:DZone}(n:Za9 a name=(((i:Nat):Int),0))(e:a.zones[i]?=some z) :
  Does Tryz.prog 17 [srcV Ar Az Al As cr cz cl cs a,.string name,.int .i64 t] w (fun v O=>v = .tuple #[.int .i64 (Zfa a.rules z.eras t),.int .i64 0]/\O=[]):=by
 obtain⟨c,g,⟨Ae,d,j,rfl⟩,b⟩:=h.A.z i _ e
 exact ZiM Ar Az Al As cr cz cl cs a name t z.name Ae z.eras.length d _ 0 w fun w' f=>ZAW Ar Az Al As cr cz cl cs a name t w' (h.up f) k m l n e Ae d c (b.up f (Nat.le_refl _))
theorem Zxy (h:Zcb w Ar Az Al As cr cz cl cs a)(o:MeG w)(p:a.zones.length+a.links.length<=1000000)(m:MnOk a){i:Nat}{z:DZone}(q:Za9 a name=(((i:Nat):Int),0))(g:a.zones[i]?=some z){e:DEra}(k:z.eras[0]?=some e) :
  Does Tryz.prog 19 [srcV Ar Az Al As cr cz cl cs a,.string name] w (fun v O=>v = .tuple #[.agg (Zes e (ZaZ a.rules e 0)).enc.toArray,.int .i64 0]/\O=[]):=by
 have b:=List.mem_of_getElem? g
 obtain⟨j,n,⟨Ae,l,d,rfl⟩,f⟩:=h.A.z i _ g
 exact ZrV Ar Az Al As cr cz cl cs a name i z Ae l e _ w h.A (fun w' c=>ZlK Ar Az Al As cr cz cl cs a name w' (h.up c) p q) g j f d k fun w' c=>Zmr Ar Az Al As cr cz cl cs a 0 w' (h.up c) (o.up c) m b (List.mem_of_getElem? k) (by decide)
end
end Go.Proofs.YtpipekfmecikmaaGreatDoor
