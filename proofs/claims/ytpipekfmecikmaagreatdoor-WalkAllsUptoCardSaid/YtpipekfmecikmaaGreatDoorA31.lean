/- Parts of the proof. -/
import Derived.Test.YtpipekfmecikmaaGreatDoorA30
set_option maxHeartbeats 0
set_option linter.all false
namespace Go.Wk
open Go Go.RowKit
theorem Zni:∀ (l a:List UInt8) (r:List UInt8 × List UInt8),Zbn [47] l a=some r->(47:UInt8)∈l
 | [],a,r,h=>by cases h
 | c::l,a,r,h=>by
  rw[ZBZ]at h
  by_cases b:c=47
  ·rw[b];exact List.mem_cons_self
  ·rw[if_neg b]at h
   exact List.mem_cons_of_mem _ (Zni l _ r h)
theorem Zki:∀ (l e a b:List UInt8),Zbn [37,115] l e=some (a,b)->e++l=a++[37,115]++b
 | [],e,a,b,h=>by cases h
 | [c],e,a,b,h=>by rw[Zkh [c] e (Nat.le_refl 1)]at h;cases h
 | c::d::l,e,a,b,h=>by
  rw[Zkg]at h
  by_cases f:c=37/\d=115
  ·rw[if_pos f]at h
   simp only[Option.some.injEq,Prod.mk.injEq]at h
   rw[<- h.1,<- h.2,f.1,f.2]
   simp
  ·rw[if_neg f]at h
   have:=Zki (d::l) (e++[c]) a b h
   rw[<- this]
   simp
def Zp0 (l:List UInt8):List UInt8 × List UInt8 × Bool:=if ZaP l=0\/(Zcx l).2.2=false then ([],[],false) else ((Zcx l).1,(Zcx l).2.1,true)
end Go.Wk
namespace Go.Proofs.YtpipekfmecikmaaGreatDoor
open Go Go.RowKit Go.Wk Tryz
attribute [local irreducible] W RL Does Zaq Zai retQ Calls Pu Stp RD Qy Ay Zaj
theorem Zk7 (l:List UInt8):ZaP l=0\/ZaP l=1\/ZaP l=2\/ZaP l=3\/ZaP l=4\/ZaP l=5:=by
 unfold ZaP
 dsimp only
 repeat' split
 all_goals simp
theorem ZBQ {l:List UInt8}(c:(47:UInt8)∈l):ZaP l≠1/\ZaP l≠3/\ZaP l≠4:=by
 refine⟨fun h=>?_,fun h=>?_,fun h=>?_⟩
 ·have g:=ZBR h
  unfold ZbD Zb7 ZbO at g
  simp only[Bool.and_eq_true,List.all_eq_true]at g
  have:=g.2 _ c
  revert this
  decide
 ·have e:=Zk6 l h
  unfold Zbq at e
  cases hc:Zbn [37,115] l [] with
  | none=>rw[hc]at e;cases e
  | some ab =>
   obtain⟨a,b⟩:=ab
   rw[hc]at e
   dsimp only at e
   split at e
   ·rename_i j
    have d:=Zki l [] a b hc
    rw[List.nil_append]at d
    rw[d]at c
    have f:=j.1
    rw[ZjZ,List.all_eq_true]at f
    rcases List.mem_append.1 c with c|c
    ·rcases List.mem_append.1 c with c|c
     ·have:=f _ (List.mem_append_left _ c);revert this;decide
     ·revert c;decide
    ·have:=f _ (List.mem_append_right _ c);revert this;decide
   ·cases e
 ·have i:l=[37,122]:=by
   unfold ZaP at h
   dsimp only at h
   repeat' split at h
   all_goals first|(cases h;done)|assumption
  rw[i]at c
  revert c
  decide
theorem Ztc (l:List UInt8):Zp0 l=match Zc5 l with|some (a,b)=>(a,b,true)|none=>([],[],false):=by
 rw[Zf8]
 unfold Zp0 Zcx cutV
 cases hc:Zbn [47] l [] with
 | none=>simp
 | some ab =>
  obtain⟨a,b⟩:=ab
  dsimp only
  have d:=ZBQ (Zni l [] (a,b) hc)
  have e:=Zk7 l
  by_cases c:ZaP l=0
  ·rw[if_pos (.inl c),if_neg (by omega)]
  ·rw[if_neg (by simp[c]),if_pos ⟨rfl,by omega⟩]
theorem Zrw {l:List UInt8}(h:ZaP l=2):(Zc5 l).isSome=true:=by
 rw[Zf8]
 have a:=h
 rw[ZhF]at a
 cases hb:(cutV l [47]).2.2 with
 | true=>rw[if_pos ⟨rfl,.inl h⟩];rfl
 | false =>
  exfalso
  rw[hb]at a
  unfold Zk5 at a
  revert a
  cases ZbD l <;> cases (Zbq l).isSome <;> cases decide (l=[37,122]) <;> cases (ZaV l).isSome <;> simp
theorem ZDv {G:Prop}(h:G:=by(apply Zap;rfl;rfl;exact b0)):G:=h
theorem Zsr {G G':Prop}(k:G')(h:Hold G'->G:=by intro k9;(first|refine und ?_|(apply RL_pu;rfl;exact ZDv)|(refine js ?_;(first|(refine Zab (fun w' _=>hsl w') ?_)|(refine Zab (fun w' _=>hk w') ?_)))|refine walk1 ?_);exact k9.out):G:=h ⟨k⟩
theorem Zod (f:ByteArray)(d:f.size<=1000000000)(w:World):Does prog 135 [.string f] w (fun v O=>v=slV (Zp0 f.data.toList)/\O=[]):=by
 have hsl:=fun w'=>Zh1 f (by omega) w'
 have hk:=fun w'=>ZgJ f d w'
 unfold Zp0
 generalize ZaP f.data.toList=K at *
 generalize Zcx f.data.toList=ab at *
 obtain⟨a,b,ok⟩:=ab
 simp only[slV]at hsl ⊢
 refine Zaa func135 rfl rfl rfl rfl ?_
 by_cases c:K=0
 ·have b0:decide (K=0)=true:=dT_ c
  rw[if_pos (.inl c)]
  repeat refine Zsr ?_
  exact Zcj _ _ _ [] (.tmp rfl) (.tmp rfl) (.tmp rfl) .nil ⟨rfl,rfl⟩
 ·have b0:decide (K=0)=false:=dF_ c
  cases ok with
  | false =>
   rw[if_pos (.inr rfl)]
   repeat refine Zsr ?_
   exact Zcj _ _ _ [] (.tmp rfl) (.tmp rfl) (.tmp rfl) .nil ⟨rfl,rfl⟩
  | true =>
   rw[if_neg (fun h=>h.elim c (fun h=>by cases h))]
   repeat refine Zsr ?_
   exact Zcj _ _ _ [] (.tmp rfl) (.tmp rfl) (.tmp rfl) .nil ⟨rfl,rfl⟩
theorem ZDu {G:Prop}(h:G:=by(first|(apply Zap;rfl;rfl;first|exact k0|exact k3|exact s0)|(apply Zal;rfl;rfl;exact k4))):G:=h
theorem ZpK {G G':Prop}(k:G')(h:Hold G'->G:=by intro k9;(first|refine und ?_|(apply RL_pu;rfl;exact ZDu)|(refine js ?_;(first|(refine Zab (fun w' _=>hk w') ?_)|(refine Zab (fun w' _=>hp w') ?_)))|refine walk1 ?_);exact k9.out):G:=h ⟨k⟩
theorem ZzF {G:Prop}(h:G:=by(first|(apply Zap;rfl;rfl;first|exact k0|exact k3)|(apply Zg9;rfl;rfl;exact q1)|(apply Zg9;rfl;rfl;exact q2))):G:=h
theorem ZDt {G:Prop}(h:G:=by(first|(apply Zap;rfl;rfl;first|exact k0|exact k3)|(apply Zal;rfl;rfl;exact k4)|(apply ZhJ;rfl;rfl;exact hW)|(apply Zav;rfl;rfl;first|exact g1|exact g3|exact g5|exact g6)|(apply Zau;rfl;rfl;first|exact g2|exact g4)|(apply Zci;rfl;rfl;exact s1))):G:=h
theorem ZlU {G G':Prop}(k:G')(h:Hold G'->G:=by intro k9;(first|refine und ?_|(apply RL_pu;rfl;exact ZDt)|(refine js ?_;(first|(refine Zab (fun w' _=>hk w') ?_)|(refine Zab (fun w' _=>hp w') ?_)|(refine Zab (fun w' _=>htx w') ?_)))|refine walk1 ?_);exact k9.out):G:=h ⟨k⟩
set_option maxHeartbeats 0 in
theorem Ze8 (f d:ByteArray)(g c:Int)(w:World)(hs:f.size<=1000000000)(hl:d.size<=1000000000)(ho:I64 g)(X:I64 c) :
  Does prog 91 [.string f,.int .i64 g,.agg #[.int .i64 c,.string d]] w (fun v O=>v=xpV (Zdx f.data.toList g c d.data.toList)/\O=[]):=by
 have hk:=fun w'=>ZgJ f hs w'
 have hp:=fun w'=>Zod f hs w'
 have j:=fun w'=>Zh6 f (by omega) w'
 have aa:=Zfi f
 unfold LetR at j
 rw[Ztc]at hp
 have h3:=Zk6 f.data.toList
 have h2 := @Zrw f.data.toList
 have ae:=Zk7 f.data.toList
 have T:=Zf8 f.data.toList
 unfold Zdx
 cases hP:Zc5 f.data.toList with
 | some ab =>
  obtain⟨a,b⟩:=ab
  rw[hP]at hp
  simp only[slV]at hp j
  dsimp only
  have z:ZaP f.data.toList≠0:=by
   intro M
   rw[T,if_neg (by omega)]at hP
   cases hP
  generalize ZaP f.data.toList=K at *
  have k0:decide (K=0)=false:=dF_ z
  refine Zaa func91 rfl rfl rfl rfl ?_
  by_cases M:c=0
  ·have s0:decide (c=0)=true:=dT_ M
   rw[if_pos M]
   repeat (first|refine ZpK ?_|(refine js ?_;(first|(apply Zad (h:=fun w' _ _=>j w');rfl;rintro v O' ⟨⟨C,D,rfl,m⟩,rfl⟩)|(refine bx ?_;intro u))))
   exact rtB
  ·have s0:decide (c=0)=false:=dF_ M
   rw[if_neg M]
   repeat (first|refine ZpK ?_|(refine js ?_;(first|(apply Zad (h:=fun w' _ _=>j w');rfl;rintro v O' ⟨⟨C,D,rfl,m⟩,rfl⟩)|(refine bx ?_;intro u))))
   exact rtB
 | none =>
 rw[hP]at hp h2
 clear T
 simp only[slV]at hp j
 dsimp only
 generalize ZaP f.data.toList=K at *
 have ad:K≠2:=fun h=>by have:=h2 h;cases this
 refine Zaa func91 rfl rfl rfl rfl ?_
 by_cases z:K=0
 ·have k0:decide (K=0)=true:=dT_ z
  rw[if_neg (by omega),if_neg (by omega),if_neg (by omega)]
  repeat (first|refine ZpK ?_|(refine js ?_;(first|(apply Zad (h:=fun w' _ _=>j w');rfl;rintro v O' ⟨⟨C,D,rfl,m⟩,rfl⟩)|(refine bx ?_;intro u))))
  exact rtB
 have k0:decide (K=0)=false:=dF_ z
 by_cases r:K=3
 ·have k3:decide (K=3)=true:=dT_ r
  have Y:=h3 r
  have Z:=Zgn f.data.toList [37,115]
  rw[show f.data.toList.length=f.size from rfl]at Z
  rw[if_pos r]
  generalize (cutV f.data.toList [37,115]).1=a at *
  generalize (cutV f.data.toList [37,115]).2.1=b at *
  rw[Y]at j ⊢
  dsimp only
  have B:∀ w',Does prog 136 [.string f] w' (fun v O=>v = .tuple #[.string ⟨a.toArray⟩,.string ⟨b.toArray⟩,.bool true]/\O=[]):=fun w'=>(j w').mono fun v O h=>by
   obtain⟨⟨x,y,X,m⟩,hO⟩:=h
   obtain⟨rfl,rfl⟩:=m a b rfl
   exact⟨X,hO⟩
  have af:(⟨a.toArray⟩:ByteArray).size=a.length:=by show a.toArray.size=a.length;simp
  have ac:(⟨b.toArray⟩:ByteArray).size=b.length:=by show b.toArray.size=b.length;simp
  have q1:(⟨a.toArray⟩:ByteArray).size+d.size<=9223372036854775807:=by omega
  have q2:((⟨a.toArray⟩:ByteArray)++d).size+(⟨b.toArray⟩:ByteArray).size<=9223372036854775807:=by rw[ByteArray.size_append];omega
  have q3:(((⟨a.toArray⟩:ByteArray)++d++⟨b.toArray⟩).size:Int)<=9223372036854775807:=by rw[ByteArray.size_append,ByteArray.size_append];omega
  have hx:((⟨a.toArray⟩:ByteArray)++d++⟨b.toArray⟩).data.toList=a++d.data.toList++b:=by simp
  have N:=Zfi ((⟨a.toArray⟩:ByteArray)++d++⟨b.toArray⟩)
  have s:=fun w'=>Ze9 ((⟨a.toArray⟩:ByteArray)++d++⟨b.toArray⟩) q3 w'
  rw[show ZhB ((⟨a.toArray⟩:ByteArray)++d++⟨b.toArray⟩)=ZbD (a++d.data.toList++b) from by unfold ZhB ZbD;rw[hx]]at s
  rw[hx]at N
  cases hok:ZbD (a++d.data.toList++b) with
  | false =>
   rw[hok]at s
   rw[if_neg (by decide)]
   repeat (first|refine und ?_|(apply RL_pu;rfl;exact ZzF)|(refine js ?_;(first|(refine Zab (fun w' _=>hk w') ?_)|(refine Zab (fun w' _=>hp w') ?_)|(refine Zab (fun w' _=>B w') ?_)|(refine Zab (fun w' _=>s w') ?_)|(refine bx ?_;intro u)))|refine walk1 ?_)
   exact rtB
  | true =>
   rw[hok]at s
   rw[if_pos rfl]
   unfold xpV
   dsimp only
   rw[N]
   repeat (first|refine und ?_|(apply RL_pu;rfl;exact ZzF)|(refine js ?_;(first|(refine Zab (fun w' _=>hk w') ?_)|(refine Zab (fun w' _=>hp w') ?_)|(refine Zab (fun w' _=>B w') ?_)|(refine Zab (fun w' _=>s w') ?_)|(refine bx ?_;intro u)))|refine walk1 ?_)
   exact rtB
 have k3:decide (K=3)=false:=dF_ r
 rw[if_neg r]
 by_cases A:K=4
 ·have k4:(!decide (K=4))=false:=by rw[dT_ A];rfl
  rw[if_pos A]
  obtain⟨W0,hW⟩:∃ W0,IntKind.i64.wrap (g+c)=W0:=⟨_,rfl⟩
  have V:IntKind.i64.wrap (g+c)=if g+c < -9223372036854775808 then g+c+18446744073709551616 else if 9223372036854775807<g+c then g+c - 18446744073709551616 else g+c:=by
   unfold I64 at ho X
   rw[IntKind.wrap_i64]
   repeat' split
   all_goals omega
  have Q:(if ZcQ (g+c)=true/\ZaM (g+c)≠[] then (ZaM (g+c),(0:Int)) else ([],15))=if ZaM (g+c)=[] then ([],15) else (ZaM (g+c),0):=by
   by_cases U:ZaM (g+c)=[]
   ·rw[if_neg (fun h=>h.2 U),if_pos U]
   ·rw[if_pos ⟨by cases hh:ZcQ (g+c) with|true=>rfl|false=>exact absurd (ZhC hh) U,U⟩,if_neg U]
  rw[Q]
  obtain⟨E,g1⟩:∃ e,decide (100000<g)=e:=⟨_,rfl⟩
  obtain⟨I,g2⟩:∃ e,decide (g < -100000)=e:=⟨_,rfl⟩
  obtain⟨L,g3⟩:∃ e,decide (100000<c)=e:=⟨_,rfl⟩
  obtain⟨W,g4⟩:∃ e,decide (c < -100000)=e:=⟨_,rfl⟩
  obtain⟨J,g5⟩:∃ e,decide (0<g)=e:=⟨_,rfl⟩
  obtain⟨p2,g6⟩:∃ e,decide (0<c)=e:=⟨_,rfl⟩
  by_cases i:(E||(I||(L||W)))=false
  ·have hb:¬ 100000<g/\¬ g < -100000/\¬ 100000<c/\¬ c < -100000:=by
    rw[<- g1,<- g2,<- g3,<- g4]at i
    simp only[Bool.or_eq_false_iff,decide_eq_false_iff_not]at i
    exact i
   have F:W0=g+c:=by rw[<- hW,V,if_neg (by omega),if_neg (by omega)]
   subst F
   have htx:=fun w'=>ZcW (g+c) w'
   obtain⟨rfl,rfl,rfl,rfl⟩:E=false/\I=false/\L=false/\W=false:=by simpa using i
   generalize ZaM (g+c)=t at *
   obtain⟨q,s1⟩:∃ q,decide ((⟨t.toArray⟩:ByteArray)=⟨#[]⟩)=q:=⟨_,rfl⟩
   cases q with
   | true =>
    rw[if_pos (oneV s1)]
    repeat (first|refine ZlU ?_|(refine js ?_;(first|(apply Zad (h:=fun w' _ _=>j w');rfl;rintro v O' ⟨⟨C,D,rfl,m⟩,rfl⟩)|(refine bx ?_;intro u))))
    exact rtB
   | false =>
    rw[if_neg (oneF s1)]
    repeat (first|refine ZlU ?_|(refine js ?_;(first|(apply Zad (h:=fun w' _ _=>j w');rfl;rintro v O' ⟨⟨C,D,rfl,m⟩,rfl⟩)|(refine bx ?_;intro u))))
    exact rtB
  ·have H:E=true\/(E=false/\I=true)\/(E=false/\I=false/\L=true)\/(E=false/\I=false/\L=false/\W=true):=by
    clear g1 g2 g3 g4
    revert i
    cases E <;> cases I <;> cases L <;> cases W <;> simp
   by_cases p:J=p2
   ·have R:ZaM (g+c)=[]:=by
     refine ZdC ?_
     rw[<- g5,<- g6,decide_eq_decide]at p
     rw[<- g1,<- g2,<- g3,<- g4]at i
     simp only[Bool.or_eq_false_iff,decide_eq_false_iff_not]at i
     omega
    rw[R,if_pos rfl]
    subst p
    clear i
    rcases H with rfl|⟨rfl,rfl⟩|⟨rfl,rfl,rfl⟩|⟨rfl,rfl,rfl,rfl⟩ <;> cases J
    all_goals
     repeat (first|refine ZlU ?_|(refine js ?_;(first|(apply Zad (h:=fun w' _ _=>j w');rfl;rintro v O' ⟨⟨C,D,rfl,m⟩,rfl⟩)|(refine bx ?_;intro u))))
     exact rtB
   ·have F:W0=g+c:=by
     have ac:¬ ((0<g)↔(0<c)):=fun h=>p (by rw[<- g5,<- g6,decide_eq_decide];exact h)
     unfold I64 at ho X
     rw[<- hW,V,if_neg (by omega),if_neg (by omega)]
    subst F
    have htx:=fun w'=>ZcW (g+c) w'
    generalize ZaM (g+c)=t at *
    obtain⟨q,s1⟩:∃ q,decide ((⟨t.toArray⟩:ByteArray)=⟨#[]⟩)=q:=⟨_,rfl⟩
    have S:p2 = !J:=by
     revert p
     clear g5 g6
     cases J <;> cases p2 <;> simp
    subst S
    cases q with
    | true =>
     rw[if_pos (oneV s1)]
     clear i
     rcases H with rfl|⟨rfl,rfl⟩|⟨rfl,rfl,rfl⟩|⟨rfl,rfl,rfl,rfl⟩ <;> cases J
     all_goals
      repeat (first|refine ZlU ?_|(refine js ?_;(first|(apply Zad (h:=fun w' _ _=>j w');rfl;rintro v O' ⟨⟨C,D,rfl,m⟩,rfl⟩)|(refine bx ?_;intro u))))
      exact rtB
    | false =>
     rw[if_neg (oneF s1)]
     clear i
     rcases H with rfl|⟨rfl,rfl⟩|⟨rfl,rfl,rfl⟩|⟨rfl,rfl,rfl,rfl⟩ <;> cases J
     all_goals
      repeat (first|refine ZlU ?_|(refine js ?_;(first|(apply Zad (h:=fun w' _ _=>j w');rfl;rintro v O' ⟨⟨C,D,rfl,m⟩,rfl⟩)|(refine bx ?_;intro u))))
      exact rtB
 ·have k4:(!decide (K=4))=true:=by rw[dF_ A];rfl
  rw[if_neg A,if_pos (by omega)]
  repeat (first|refine ZpK ?_|(refine js ?_;(first|(apply Zad (h:=fun w' _ _=>j w');rfl;rintro v O' ⟨⟨C,D,rfl,m⟩,rfl⟩)|(refine bx ?_;intro u))))
  exact ret_2 _ _ [] (.tmp rfl) (.tmp rfl) .nil ⟨by first|rfl|(unfold xpV;dsimp only;rw[aa]),rfl⟩
