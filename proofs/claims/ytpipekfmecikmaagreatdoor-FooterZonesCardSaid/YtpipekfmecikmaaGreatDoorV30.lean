/- Parts of the proof. -/
import Derived.Test.YtpipekfmecikmaaGreatDoorV29
import Derived.Test.YtpipekfmecikmaaGreatDoorV17
set_option maxHeartbeats 4000000
set_option linter.unusedVariables false
set_option linter.unusedSimpArgs false
namespace Go.Wk
open Go Go.RowKit
theorem Zl4:∀ (l acc:List UInt8) (r:List UInt8 × List UInt8),Zbg [47] l acc=some r->(47:UInt8)∈l
 | [],acc,r,h=>by cases h
 | c::l,acc,r,h=>by
  rw[Zzz]at h
  by_cases hc:c=47
  ·rw[hc];exact List.mem_cons_self
  ·rw[if_neg hc]at h
   exact List.mem_cons_of_mem _ (Zl4 l _ r h)
theorem ZjC:∀ (l acc a b:List UInt8),Zbg [37,115] l acc=some (a,b)->acc++l=a++[37,115]++b
 | [],acc,a,b,h=>by cases h
 | [c],acc,a,b,h=>by rw[ZjB [c] acc (Nat.le_refl 1)]at h;cases h
 | c::d::l,acc,a,b,h=>by
  rw[ZjA]at h
  by_cases hc:c=37/\d=115
  ·rw[if_pos hc]at h
   simp only[Option.some.injEq,Prod.mk.injEq]at h
   rw[<- h.1,<- h.2,hc.1,hc.2]
   simp
  ·rw[if_neg hc]at h
   have:=ZjC (d::l) (acc++[c]) a b h
   rw[<- this]
   simp
def ZoS (l:List UInt8):List UInt8 × List UInt8 × Bool:=if Za6 l=0\/(Zcg l).2.2=false then ([],[],false) else ((Zcg l).1,(Zcg l).2.1,true)
end Go.Wk
namespace Go.Proofs.YtpipekfmecikmaaGreatDoor
open Go Go.RowKit Go.Wk
attribute [local irreducible] W RL Does Zat Zaj retQ Calls Pu Stp RD Qy Ay Zak
theorem Zko (l:List UInt8):Za6 l=0\/Za6 l=1\/Za6 l=2\/Za6 l=3\/Za6 l=4\/Za6 l=5:=by
 unfold Za6
 dsimp only
 repeat' split
 all_goals simp
theorem Zzp {l:List UInt8}(hm:(47:UInt8)∈l):Za6 l≠1/\Za6 l≠3/\Za6 l≠4:=by
 refine⟨fun h=>?_,fun h=>?_,fun h=>?_⟩
 ·have h1:=Zzq h
  unfold Zbq ZbK Zby at h1
  simp only[Bool.and_eq_true,List.all_eq_true]at h1
  have:=h1.2 _ hm
  revert this
  decide
 ·have h3:=Zkn l h
  unfold Zbh at h3
  cases hc:Zbg [37,115] l [] with
  | none=>rw[hc]at h3;cases h3
  | some ab =>
   obtain⟨a,b⟩:=ab
   rw[hc]at h3
   dsimp only at h3
   split at h3
   ·rename_i hl
    have happ:=ZjC l [] a b hc
    rw[List.nil_append]at happ
    rw[happ]at hm
    have hl1:=hl.1
    rw[Zjk,List.all_eq_true]at hl1
    rcases List.mem_append.1 hm with hm|hm
    ·rcases List.mem_append.1 hm with hm|hm
     ·have:=hl1 _ (List.mem_append_left _ hm);revert this;decide
     ·revert hm;decide
    ·have:=hl1 _ (List.mem_append_right _ hm);revert this;decide
   ·cases h3
 ·have h4:l=[37,122]:=by
   unfold Za6 at h
   dsimp only at h
   repeat' split at h
   all_goals first|(cases h;done)|assumption
  rw[h4]at hm
  revert hm
  decide
theorem ZrU (l:List UInt8):ZoS l=match ZdU l with|some (a,b)=>(a,b,true)|none=>([],[],false):=by
 rw[Zfv]
 unfold ZoS Zcg cutV
 cases hc:Zbg [47] l [] with
 | none=>simp
 | some ab =>
  obtain⟨a,b⟩:=ab
  dsimp only
  have h47:=Zzp (Zl4 l [] (a,b) hc)
  have hb:=Zko l
  by_cases h0:Za6 l=0
  ·rw[if_pos (.inl h0),if_neg (by omega)]
  ·rw[if_neg (by simp[h0]),if_pos ⟨rfl,by omega⟩]
theorem Zqu {l:List UInt8}(h:Za6 l=2):(ZdU l).isSome=true:=by
 rw[Zfv]
 have hk:=h
 rw[Zg0]at hk
 cases hb:(cutV l [47]).2.2 with
 | true=>rw[if_pos ⟨rfl,.inl h⟩];rfl
 | false =>
  exfalso
  rw[hb]at hk
  unfold Zf7 at hk
  revert hk
  cases Zbq l <;> cases (Zbh l).isSome <;> cases decide (l=[37,122]) <;> cases (ZaY l).isSome <;> simp
theorem Zz9 {G:Prop}(h:G:=by(apply Zan;rfl;rfl;exact b0)):G:=h
theorem Zrj {G G':Prop}(k:G')(h:Hold G'->G:=by intro k9;(first|refine und ?_|(apply RL_pu;rfl;exact Zz9)|(refine js ?_;(first|(refine Zab (fun w' _=>hsl w') ?_)|(refine Zab (fun w' _=>hk w') ?_)))|refine walk1 ?_);exact k9.out):G:=h ⟨k⟩
theorem Zm6 (f:ByteArray)(hs:f.size<=1000000000)(w:World):Does Tryz.prog 135 [.string f] w (fun v O=>v=slV (ZoS f.data.toList)/\O=[]):=by
 have hsl:=fun w'=>Zhx f (by omega) w'
 have hk:=fun w'=>Zf1 f hs w'
 unfold ZoS
 generalize Za6 f.data.toList=K at *
 generalize Zcg f.data.toList=ab at *
 obtain⟨a,b,ok⟩:=ab
 simp only[slV]at hsl ⊢
 refine Zaa Tryz.func135 rfl rfl rfl rfl ?_
 by_cases h0:K=0
 ·have b0:decide (K=0)=true:=decide_eq_true h0
  rw[if_pos (.inl h0)]
  repeat refine Zrj ?_
  exact Zck _ _ _ [] (.tmp rfl) (.tmp rfl) (.tmp rfl) .nil ⟨rfl,rfl⟩
 ·have b0:decide (K=0)=false:=decide_eq_false h0
  cases ok with
  | false =>
   rw[if_pos (.inr rfl)]
   repeat refine Zrj ?_
   exact Zck _ _ _ [] (.tmp rfl) (.tmp rfl) (.tmp rfl) .nil ⟨rfl,rfl⟩
  | true =>
   rw[if_neg (fun h=>h.elim h0 (fun h=>by cases h))]
   repeat refine Zrj ?_
   exact Zck _ _ _ [] (.tmp rfl) (.tmp rfl) (.tmp rfl) .nil ⟨rfl,rfl⟩
theorem Zz8 {G:Prop}(h:G:=by(first|(apply Zan;rfl;rfl;first|exact k0|exact k3|exact s0)|(apply Zal;rfl;rfl;exact k4))):G:=h
theorem ZoF {G G':Prop}(k:G')(h:Hold G'->G:=by intro k9;(first|refine und ?_|(apply RL_pu;rfl;exact Zz8)|(refine js ?_;(first|(refine Zab (fun w' _=>hk w') ?_)|(refine Zab (fun w' _=>hp w') ?_)))|refine walk1 ?_);exact k9.out):G:=h ⟨k⟩
theorem Zxt {G:Prop}(h:G:=by(first|(apply Zan;rfl;rfl;first|exact k0|exact k3)|(apply Zgr;rfl;rfl;exact q1)|(apply Zgr;rfl;rfl;exact q2))):G:=h
theorem Zz7 {G:Prop}(h:G:=by(first|(apply Zan;rfl;rfl;first|exact k0|exact k3)|(apply Zal;rfl;rfl;exact k4)|(apply Zhd;rfl;rfl;exact hW)|(apply Zaw;rfl;rfl;first|exact g1|exact g3|exact g5|exact g6)|(apply Zaz;rfl;rfl;first|exact g2|exact g4)|(apply ZbX;rfl;rfl;exact s1))):G:=h
theorem Zk0 {G G':Prop}(k:G')(h:Hold G'->G:=by intro k9;(first|refine und ?_|(apply RL_pu;rfl;exact Zz7)|(refine js ?_;(first|(refine Zab (fun w' _=>hk w') ?_)|(refine Zab (fun w' _=>hp w') ?_)|(refine Zab (fun w' _=>htx w') ?_)))|refine walk1 ?_);exact k9.out):G:=h ⟨k⟩
set_option maxHeartbeats 4000000 in
theorem ZeC (f letter:ByteArray)(off save:Int)(w:World)(hs:f.size<=1000000000)(hl:letter.size<=1000000000)(ho:I64 off)(hv:I64 save) :
  Does Tryz.prog 91 [.string f,.int .i64 off,.agg #[.int .i64 save,.string letter]] w (fun v O=>v=xpV (ZeW f.data.toList off save letter.data.toList)/\O=[]):=by
 have hk:=fun w'=>Zf1 f hs w'
 have hp:=fun w'=>Zm6 f hs w'
 have hlt:=fun w'=>ZhC f (by omega) w'
 have hfb:=ZeM f
 unfold LetR at hlt
 rw[ZrU]at hp
 have h3:=Zkn f.data.toList
 have h2 := @Zqu f.data.toList
 have hbd:=Zko f.data.toList
 have hpn:=Zfv f.data.toList
 unfold ZeW
 cases hP:ZdU f.data.toList with
 | some ab =>
  obtain⟨a,b⟩:=ab
  rw[hP]at hp
  simp only[slV]at hp hlt
  dsimp only
  have hK0:Za6 f.data.toList≠0:=by
   intro h0
   rw[hpn,if_neg (by omega)]at hP
   cases hP
  generalize Za6 f.data.toList=K at *
  have k0:decide (K=0)=false:=decide_eq_false hK0
  refine Zaa Tryz.func91 rfl rfl rfl rfl ?_
  by_cases h0:save=0
  ·have s0:decide (save=0)=true:=decide_eq_true h0
   rw[if_pos h0]
   repeat (first|refine ZoF ?_|(refine js ?_;(first|(apply Zae (h:=fun w' _ _=>hlt w');rfl;rintro v O' ⟨⟨lx,ly,rfl,hxy⟩,rfl⟩)|(refine bx ?_;intro bk))))
   exact rtB
  ·have s0:decide (save=0)=false:=decide_eq_false h0
   rw[if_neg h0]
   repeat (first|refine ZoF ?_|(refine js ?_;(first|(apply Zae (h:=fun w' _ _=>hlt w');rfl;rintro v O' ⟨⟨lx,ly,rfl,hxy⟩,rfl⟩)|(refine bx ?_;intro bk))))
   exact rtB
 | none =>
 rw[hP]at hp h2
 clear hpn
 simp only[slV]at hp hlt
 dsimp only
 generalize Za6 f.data.toList=K at *
 have hK2:K≠2:=fun h=>by have:=h2 h;cases this
 refine Zaa Tryz.func91 rfl rfl rfl rfl ?_
 by_cases hK0:K=0
 ·have k0:decide (K=0)=true:=decide_eq_true hK0
  rw[if_neg (by omega),if_neg (by omega),if_neg (by omega)]
  repeat (first|refine ZoF ?_|(refine js ?_;(first|(apply Zae (h:=fun w' _ _=>hlt w');rfl;rintro v O' ⟨⟨lx,ly,rfl,hxy⟩,rfl⟩)|(refine bx ?_;intro bk))))
  exact rtB
 have k0:decide (K=0)=false:=decide_eq_false hK0
 by_cases hK3:K=3
 ·have k3:decide (K=3)=true:=decide_eq_true hK3
  have har:=h3 hK3
  have hcl:=ZfF f.data.toList [37,115]
  rw[show f.data.toList.length=f.size from rfl]at hcl
  rw[if_pos hK3]
  generalize (cutV f.data.toList [37,115]).1=a at *
  generalize (cutV f.data.toList [37,115]).2.1=b at *
  rw[har]at hlt ⊢
  dsimp only
  have hlt2:∀ w',Does Tryz.prog 136 [.string f] w' (fun v O=>v = .tuple #[.string ⟨a.toArray⟩,.string ⟨b.toArray⟩,.bool true]/\O=[]):=fun w'=>(hlt w').mono fun v O h=>by
   obtain⟨⟨x,y,hv,hxy⟩,hO⟩:=h
   obtain⟨rfl,rfl⟩:=hxy a b rfl
   exact⟨hv,hO⟩
  have hs1:(⟨a.toArray⟩:ByteArray).size=a.length:=by show a.toArray.size=a.length;simp
  have hs2:(⟨b.toArray⟩:ByteArray).size=b.length:=by show b.toArray.size=b.length;simp
  have q1:(⟨a.toArray⟩:ByteArray).size+letter.size<=9223372036854775807:=by omega
  have q2:((⟨a.toArray⟩:ByteArray)++letter).size+(⟨b.toArray⟩:ByteArray).size<=9223372036854775807:=by rw[ByteArray.size_append];omega
  have q3:(((⟨a.toArray⟩:ByteArray)++letter++⟨b.toArray⟩).size:Int)<=9223372036854775807:=by rw[ByteArray.size_append,ByteArray.size_append];omega
  have hx:((⟨a.toArray⟩:ByteArray)++letter++⟨b.toArray⟩).data.toList=a++letter.data.toList++b:=by simp
  have hXb:=ZeM ((⟨a.toArray⟩:ByteArray)++letter++⟨b.toArray⟩)
  have hab:=fun w'=>ZeD ((⟨a.toArray⟩:ByteArray)++letter++⟨b.toArray⟩) q3 w'
  rw[show ZgU ((⟨a.toArray⟩:ByteArray)++letter++⟨b.toArray⟩)=Zbq (a++letter.data.toList++b) from by unfold ZgU Zbq;rw[hx]]at hab
  rw[hx]at hXb
  cases hok:Zbq (a++letter.data.toList++b) with
  | false =>
   rw[hok]at hab
   rw[if_neg (by decide)]
   repeat (first|refine und ?_|(apply RL_pu;rfl;exact Zxt)|(refine js ?_;(first|(refine Zab (fun w' _=>hk w') ?_)|(refine Zab (fun w' _=>hp w') ?_)|(refine Zab (fun w' _=>hlt2 w') ?_)|(refine Zab (fun w' _=>hab w') ?_)|(refine bx ?_;intro bk)))|refine walk1 ?_)
   exact rtB
  | true =>
   rw[hok]at hab
   rw[if_pos rfl]
   unfold xpV
   dsimp only
   rw[hXb]
   repeat (first|refine und ?_|(apply RL_pu;rfl;exact Zxt)|(refine js ?_;(first|(refine Zab (fun w' _=>hk w') ?_)|(refine Zab (fun w' _=>hp w') ?_)|(refine Zab (fun w' _=>hlt2 w') ?_)|(refine Zab (fun w' _=>hab w') ?_)|(refine bx ?_;intro bk)))|refine walk1 ?_)
   exact rtB
 have k3:decide (K=3)=false:=decide_eq_false hK3
 rw[if_neg hK3]
 by_cases hK4:K=4
 ·have k4:(!decide (K=4))=false:=by rw[decide_eq_true hK4];rfl
  rw[if_pos hK4]
  obtain⟨W0,hW⟩:∃ W0,IntKind.i64.wrap (off+save)=W0:=⟨_,rfl⟩
  have hwr:IntKind.i64.wrap (off+save)=if off+save < -9223372036854775808 then off+save+18446744073709551616 else if 9223372036854775807<off+save then off+save - 18446744073709551616 else off+save:=by
   unfold I64 at ho hv
   rw[IntKind.wrap_i64]
   repeat' split
   all_goals omega
  have hfin:(if ZcH (off+save)=true/\ZaL (off+save)≠[] then (ZaL (off+save),(0:Int)) else ([],15))=if ZaL (off+save)=[] then ([],15) else (ZaL (off+save),0):=by
   by_cases ht:ZaL (off+save)=[]
   ·rw[if_neg (fun h=>h.2 ht),if_pos ht]
   ·rw[if_pos ⟨by cases hh:ZcH (off+save) with|true=>rfl|false=>exact absurd (ZgV hh) ht,ht⟩,if_neg ht]
  rw[hfin]
  obtain⟨e1,g1⟩:∃ e,decide (100000<off)=e:=⟨_,rfl⟩
  obtain⟨e2,g2⟩:∃ e,decide (off < -100000)=e:=⟨_,rfl⟩
  obtain⟨e3,g3⟩:∃ e,decide (100000<save)=e:=⟨_,rfl⟩
  obtain⟨e4,g4⟩:∃ e,decide (save < -100000)=e:=⟨_,rfl⟩
  obtain⟨p1,g5⟩:∃ e,decide (0<off)=e:=⟨_,rfl⟩
  obtain⟨p2,g6⟩:∃ e,decide (0<save)=e:=⟨_,rfl⟩
  by_cases hbig:(e1||(e2||(e3||e4)))=false
  ·have hb:¬ 100000<off/\¬ off < -100000/\¬ 100000<save/\¬ save < -100000:=by
    rw[<- g1,<- g2,<- g3,<- g4]at hbig
    simp only[Bool.or_eq_false_iff,decide_eq_false_iff_not]at hbig
    exact hbig
   have hW1:W0=off+save:=by rw[<- hW,hwr,if_neg (by omega),if_neg (by omega)]
   subst hW1
   have htx:=fun w'=>ZcB (off+save) w'
   obtain⟨rfl,rfl,rfl,rfl⟩:e1=false/\e2=false/\e3=false/\e4=false:=by simpa using hbig
   generalize ZaL (off+save)=t at *
   obtain⟨q,s1⟩:∃ q,decide ((⟨t.toArray⟩:ByteArray)=⟨#[]⟩)=q:=⟨_,rfl⟩
   cases q with
   | true =>
    rw[if_pos (oneV s1)]
    repeat (first|refine Zk0 ?_|(refine js ?_;(first|(apply Zae (h:=fun w' _ _=>hlt w');rfl;rintro v O' ⟨⟨lx,ly,rfl,hxy⟩,rfl⟩)|(refine bx ?_;intro bk))))
    exact rtB
   | false =>
    rw[if_neg (oneF s1)]
    repeat (first|refine Zk0 ?_|(refine js ?_;(first|(apply Zae (h:=fun w' _ _=>hlt w');rfl;rintro v O' ⟨⟨lx,ly,rfl,hxy⟩,rfl⟩)|(refine bx ?_;intro bk))))
    exact rtB
  ·have hb4:e1=true\/(e1=false/\e2=true)\/(e1=false/\e2=false/\e3=true)\/(e1=false/\e2=false/\e3=false/\e4=true):=by
    clear g1 g2 g3 g4
    revert hbig
    cases e1 <;> cases e2 <;> cases e3 <;> cases e4 <;> simp
   by_cases hsame:p1=p2
   ·have hout:ZaL (off+save)=[]:=by
     refine Zda ?_
     rw[<- g5,<- g6,decide_eq_decide]at hsame
     rw[<- g1,<- g2,<- g3,<- g4]at hbig
     simp only[Bool.or_eq_false_iff,decide_eq_false_iff_not]at hbig
     omega
    rw[hout,if_pos rfl]
    subst hsame
    clear hbig
    rcases hb4 with rfl|⟨rfl,rfl⟩|⟨rfl,rfl,rfl⟩|⟨rfl,rfl,rfl,rfl⟩ <;> cases p1
    all_goals
     repeat (first|refine Zk0 ?_|(refine js ?_;(first|(apply Zae (h:=fun w' _ _=>hlt w');rfl;rintro v O' ⟨⟨lx,ly,rfl,hxy⟩,rfl⟩)|(refine bx ?_;intro bk))))
     exact rtB
   ·have hW1:W0=off+save:=by
     have hs2:¬ ((0<off)↔(0<save)):=fun h=>hsame (by rw[<- g5,<- g6,decide_eq_decide];exact h)
     unfold I64 at ho hv
     rw[<- hW,hwr,if_neg (by omega),if_neg (by omega)]
    subst hW1
    have htx:=fun w'=>ZcB (off+save) w'
    generalize ZaL (off+save)=t at *
    obtain⟨q,s1⟩:∃ q,decide ((⟨t.toArray⟩:ByteArray)=⟨#[]⟩)=q:=⟨_,rfl⟩
    have hp12:p2 = !p1:=by
     revert hsame
     clear g5 g6
     cases p1 <;> cases p2 <;> simp
    subst hp12
    cases q with
    | true =>
     rw[if_pos (oneV s1)]
     clear hbig
     rcases hb4 with rfl|⟨rfl,rfl⟩|⟨rfl,rfl,rfl⟩|⟨rfl,rfl,rfl,rfl⟩ <;> cases p1
     all_goals
      repeat (first|refine Zk0 ?_|(refine js ?_;(first|(apply Zae (h:=fun w' _ _=>hlt w');rfl;rintro v O' ⟨⟨lx,ly,rfl,hxy⟩,rfl⟩)|(refine bx ?_;intro bk))))
      exact rtB
    | false =>
     rw[if_neg (oneF s1)]
     clear hbig
     rcases hb4 with rfl|⟨rfl,rfl⟩|⟨rfl,rfl,rfl⟩|⟨rfl,rfl,rfl,rfl⟩ <;> cases p1
     all_goals
      repeat (first|refine Zk0 ?_|(refine js ?_;(first|(apply Zae (h:=fun w' _ _=>hlt w');rfl;rintro v O' ⟨⟨lx,ly,rfl,hxy⟩,rfl⟩)|(refine bx ?_;intro bk))))
      exact rtB
 ·have k4:(!decide (K=4))=true:=by rw[decide_eq_false hK4];rfl
  rw[if_neg hK4,if_pos (by omega)]
  repeat (first|refine ZoF ?_|(refine js ?_;(first|(apply Zae (h:=fun w' _ _=>hlt w');rfl;rintro v O' ⟨⟨lx,ly,rfl,hxy⟩,rfl⟩)|(refine bx ?_;intro bk))))
  exact ret_2 _ _ [] (.tmp rfl) (.tmp rfl) .nil ⟨by first|rfl|(unfold xpV;dsimp only;rw[hfb]),rfl⟩
end Go.Proofs.YtpipekfmecikmaaGreatDoor
