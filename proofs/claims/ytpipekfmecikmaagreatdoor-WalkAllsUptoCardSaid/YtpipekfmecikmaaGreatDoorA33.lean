/- Parts of the proof. -/
import Derived.Test.YtpipekfmecikmaaGreatDoorA32
set_option maxHeartbeats 0
set_option linter.all false
namespace Go.Proofs.YtpipekfmecikmaaGreatDoor
open Go Go.RowKit Go.Wk Tryz
attribute [local irreducible] W RL Does Zaq Zai retQ Calls Pu Stp RD Qy Ay Zaj
def ZsU (e:DEra)(R:List DRule):Int:=if Zdt e then 2 else Zem e R
theorem ZB9 (a:Int)(S:List (Int × ByteArray))(c:S≠[]):(Za1 a 0=false\/(S.any fun x => !Za1 a x.1)=true)↔(S.any fun x => !inO a||!inO (a+x.1))=true:=by
 have b:Za1 a 0=inO a:=by unfold Za1 inO;rw[Int.add_zero]
 rw[b]
 cases h:inO a with
 | true=>simp[Za1,inO]
 | false =>
  cases S with
  | nil=>exact absurd rfl c
  | cons x l=>simp
theorem Zn4 {rs:List DRule}{e:DEra}(h:¬ (e.kind=2/\ZaA rs e=[])):ZaB rs e≠[]:=by
 unfold ZaB
 split
 ·simp
 ·split
  ·rename_i a
   intro b
   exact h ⟨a,List.map_eq_nil_iff.1 b⟩
  ·simp
theorem ZqR {G:Prop}(h:G:=by(first|(apply Zau;rfl;rfl;first|exact b1|exact s1)|(apply Zav;rfl;rfl;first|exact b2|exact s2)|(apply Zap;rfl;rfl;first|exact k0|exact r0))):G:=h
theorem Zhd {G G':Prop}(k:G')(h:Hold G'->G:=by intro k9;(first|(apply RL_pu;rfl;exact ZqR)|refine walk1 ?_);exact k9.out):G:=h ⟨k⟩
theorem ZDq {G:Prop}(h:G:=by(first|exact ZqR|(apply Zap;rfl;rfl;exact hf2))):G:=h
theorem ZDp {G:Prop}(h:G:=by(first|exact ZqR|(apply Zap;rfl;rfl;exact hq2))):G:=h
theorem ZDo {G:Prop}(h:G:=by(apply Zap;rfl;rfl;first|exact r0|exact hq2)):G:=h
theorem Zzz {G:Prop}(h:G:=by(first|exact ZqR|(apply Zap;rfl;rfl;exact hq1))):G:=h
theorem ZDn {G:Prop}(h:G:=by(first|(apply ZaG;rfl;rfl;omega;omega;(intro w' _ hO;exact(Zbc (hO.of (A := .row (.slice A5 S.length c5) 155 2 S.length (S.flatMap Za6)) cS_) hg1).1))|(apply Ze3;rfl;(focus repeat' constructor);exact hgx))):G:=h
theorem Zyu {G:Prop}(h:G:=by first|(apply Qy_y;rfl;exact ZDn)|exact QyA):G:=h
theorem ZyT {G:Prop}(h:G:=by repeat (exact QF.nil)):G:=h
theorem ZDm {G:Prop}(h:G:=by(first|(apply Zal;rfl;rfl;first|exact un1|exact un2|exact u1)|(apply ZcT;rfl;rfl;exact u4)|(apply ZqH (i:=(⟨false,year,month,⟨dk,dw,dd⟩,⟨us,ub⟩⟩:DUntil)) (j:=dU0) (enc:=DUntil.enc);rfl;rfl;exact u5))):G:=h
set_option maxHeartbeats 0 in
theorem Zmh (Ar Az Al As:Option Addr)(L M K cs:Nat)(a:DSource)(e:DEra)(i:Nat)(w:World)(hA:Zam w Ar Az Al As L M K cs a)(hS:ZcH a)(hV:Zg4 a)(hE:Zjm e) :
  Does prog 195 [srcV Ar Az Al As L M K cs a,.agg e.enc.toArray,.int .i64 i] w (fun v O=>v = .int .i64 (Zdq a.rules e (decide (i=0)))/\O=[]):=by
 have hn:=hS.nr
 have f:=fun w' (d:Bel w.heap.size w w')=>Zd1 Ar Az Al As L M K cs a e w' (hA.up d) hn
 have u:=fun w' (d:Bel w.heap.size w w')=>Zhi Ar Az Al As L M K cs a e w' (hA.up d) hn
 have ab:∀ r∈ZaA a.rules e,r∈a.rules:=fun r h=>ZdD h
 have af:=Zez a.rules e
 have ag:=Zex a.rules e
 have Y:e.kind=2\/e.kind=0\/(e.kind=1/\¬ (e.save<1\/10800<e.save))->∀ x∈ZaB a.rules e,-4611686018427387904<=x.1/\x.1<=4611686018427387904:=by
  intro hk x hx
  unfold ZaB at hx
  split at hx
  ·simp only[List.mem_singleton]at hx;subst hx;dsimp only;omega
  ·split at hx
   ·obtain⟨r,h,rfl⟩:=List.mem_map.1 hx
    exact(hV r (ZdD h)).1
   ·simp only[List.mem_singleton]at hx;subst hx;dsimp only;omega
 have Z:=fun A3 D w' (d:Bel w.heap.size w w') h=>Zoo e A3 D (ZaA a.rules e) w' h hE.off hE.save (fun r hr=>hV.i64 r (ab r hr)) (by omega) hE.fmt (fun r hr=>(hS.rs r (ab r hr)).2)
 have ac := @Zn4 a.rules e
 unfold Zdq
 have ho:=hE.off
 have N:=fun w'=>ZjH e.off w'
 rw[show(if Zdt e then (2:Int) else Zem e (ZaA a.rules e))=ZsU e (ZaA a.rules e) from rfl]
 rw[show ZsU e (ZaA a.rules e)=ZsU e (ZaA a.rules e) from rfl]
 have m:=ZB9 e.off (ZaB a.rules e)
 have t:ZsU e (ZaA a.rules e)=if Zdt e then 2 else Zem e (ZaA a.rules e):=rfl
 unfold Zdt at t
 generalize ZsU e (ZaA a.rules e)=RE at *
 generalize Zem e (ZaA a.rules e)=fc at *
 generalize ZaA a.rules e=R at *
 generalize ZaB a.rules e=S at *
 obtain⟨off,kind,save,set,c,⟨g,year,month,⟨dk,dw,dd⟩,⟨us,ub⟩⟩⟩:=e
 dsimp only at f u Y Z ac ho N m t ⊢
 simp only[DEra.enc]at f u Z ⊢
 clear hE ab
 obtain⟨T,ad⟩:∃ T,decide (i=0)=T:=⟨_,rfl⟩
 have k0:decide ((i:Int)=0)=T:=by rw[<- ad,decide_eq_decide];omega
 rw[ad]
 refine Zaa func195 rfl rfl rfl rfl ?_
 by_cases c1:kind<0
 ·have b1:decide (kind<0)=true:=dT_ c1
  rw[if_pos (.inl c1)]
  repeat (first|refine Zhd ?_|(refine jg ?_;(try intro F);(first|(apply Zad (h:=fun w' d _=>f w' d);rfl;rintro v O' ⟨A3,D,rfl,rfl⟩)|(apply Zad (h:=fun w' d _=>u w' d);rfl;rintro v O' ⟨A5,c5,rfl,rfl⟩)|(refine bx ?_;intro J));first|refine⟨_,EndsA,QFRfT0,?_⟩|refine fin ?_))
  exact rtA
 have b1:decide (kind<0)=false:=dF_ c1
 by_cases c2:2<kind
 ·have b2:decide (2<kind)=true:=dT_ c2
  rw[if_pos (.inr c2)]
  repeat (first|refine Zhd ?_|(refine jg ?_;(try intro F);(first|(apply Zad (h:=fun w' d _=>f w' d);rfl;rintro v O' ⟨A3,D,rfl,rfl⟩)|(apply Zad (h:=fun w' d _=>u w' d);rfl;rintro v O' ⟨A5,c5,rfl,rfl⟩)|(refine bx ?_;intro J));first|refine⟨_,EndsA,QFRfT0,?_⟩|refine fin ?_))
  exact rtA
 have b2:decide (2<kind)=false:=dF_ c2
 rw[if_neg (by omega)]
 by_cases D:T=true/\kind=2
 ·rw[if_pos D]
  obtain⟨rfl,rfl⟩:=D
  repeat (first|refine Zhd ?_|(refine jg ?_;(try intro F);(first|(apply Zad (h:=fun w' d _=>f w' d);rfl;rintro v O' ⟨A3,D,rfl,rfl⟩)|(apply Zad (h:=fun w' d _=>u w' d);rfl;rintro v O' ⟨A5,c5,rfl,rfl⟩)|(refine bx ?_;intro J));first|refine⟨_,EndsA,QFRfT0,?_⟩|refine fin ?_))
  exact rtA
 rw[if_neg D]
 by_cases c4:kind=2/\R=[]
 ·rw[if_pos c4]
  obtain⟨rfl,hR⟩:=c4
  have r0:decide ((R.length:Int)=0)=true:=by rw[hR];rfl
  have ae:T=false:=by cases T with|false=>rfl|true=>exact absurd ⟨rfl,rfl⟩ D
  subst ae
  repeat (first|refine Zhd ?_|(refine jg ?_;(try intro F);(first|(apply Zad (h:=fun w' d _=>f w' d);rfl;rintro v O' ⟨A3,D,rfl,rfl⟩)|(apply Zad (h:=fun w' d _=>u w' d);rfl;rintro v O' ⟨A5,c5,rfl,rfl⟩)|(refine bx ?_;intro J));first|refine⟨_,EndsA,QFRfT0,?_⟩|refine fin ?_))
  exact rtA
 rw[if_neg c4]
 by_cases c5:kind=1/\(save<1\/10800<save)
 ·rw[if_pos c5]
  obtain⟨rfl,hs⟩:=c5
  by_cases d1:save<1
  ·have s1:decide (save<1)=true:=dT_ d1
   cases T
   all_goals
    repeat (first|refine Zhd ?_|(refine jg ?_;(try intro F);(first|(apply Zad (h:=fun w' d _=>f w' d);rfl;rintro v O' ⟨A3,D,rfl,rfl⟩)|(apply Zad (h:=fun w' d _=>u w' d);rfl;rintro v O' ⟨A5,c5,rfl,rfl⟩)|(refine bx ?_;intro J));first|refine⟨_,EndsA,QFRfT0,?_⟩|refine fin ?_))
    exact rtA
  ·have s1:decide (save<1)=false:=dF_ d1
   have s2:decide (10800<save)=true:=dT_ (by omega)
   cases T
   all_goals
    repeat (first|refine Zhd ?_|(refine jg ?_;(try intro F);(first|(apply Zad (h:=fun w' d _=>f w' d);rfl;rintro v O' ⟨A3,D,rfl,rfl⟩)|(apply Zad (h:=fun w' d _=>u w' d);rfl;rintro v O' ⟨A5,c5,rfl,rfl⟩)|(refine bx ?_;intro J));first|refine⟨_,EndsA,QFRfT0,?_⟩|refine fin ?_))
    exact rtA
 rw[if_neg c5]
 replace Y:=Y (by omega)
 replace m:=m (ac c4)
 obtain⟨Q,hQ⟩:∃ Q,(S.any fun x => !inO off||!inO (off+x.1))=Q:=⟨_,rfl⟩
 rw[hQ]at m
 have I:(if Za1 off 0=false\/(S.any fun x => !Za1 off x.1)=true then (3:Int) else RE)=if Q then 3 else RE:=by
  by_cases h:Q=true
  ·rw[if_pos (m.2 h),if_pos h]
  ·rw[if_neg (fun h'=>h (m.1 h')),if_neg h]
 rw[I]
 clear I m ac
 obtain⟨X,u1⟩:∃ v,(!decide (save=0))=v:=⟨_,rfl⟩
 obtain⟨v2,u4⟩:∃ v,(!decide (set=(⟨#[]⟩:ByteArray)))=v:=⟨_,rfl⟩
 obtain⟨v3,u5⟩:∃ v,(!decide ((⟨false,year,month,⟨dk,dw,dd⟩,⟨us,ub⟩⟩:DUntil)=dU0))=v:=⟨_,rfl⟩
 rw[show(!decide (set=ByteArray.empty))=v2 from u4]at t
 rw[u1,u5]at t
 have n3:∀ q,decide (kind=2)=q->q=true->T=false:=fun q h h'=>by
  cases T with
  | false=>rfl
  | true=>exact absurd ⟨rfl,of_decide_eq_true (h.trans h')⟩ D
 obtain⟨q2,hq2⟩:∃ q,decide (kind=2)=q:=⟨_,rfl⟩
 obtain⟨q1,hq1⟩:∃ q,decide (kind=1)=q:=⟨_,rfl⟩
 have r0:q2=true->decide ((R.length:Int)=0)=false:=fun h=>dF_ (fun h'=>c4 ⟨of_decide_eq_true (hq2.trans h),List.eq_nil_of_length_eq_zero (by omega)⟩)
 have s1:q1=true->decide (save<1)=false:=fun h=>dF_ (fun h'=>c5 ⟨of_decide_eq_true (hq1.trans h),.inl h'⟩)
 have s2:q1=true->decide (10800<save)=false:=fun h=>dF_ (fun h'=>c5 ⟨of_decide_eq_true (hq1.trans h),.inr h'⟩)
 refine W_seq ?_
 refine Zb4 (fun fr' O'=>∃ y z:Nat,Sub [(2,.int .i64 i),(3,.pointer (some ⟨y,0,none⟩)),(4,.pointer (some ⟨z,0,none⟩))] fr'/\SubO [.blk z [.int .i64 off,.int .i64 kind,.int .i64 save,.string set,.string c,.bool g,.int .i64 year,.int .i64 month,.int .i64 dk,.int .i64 dw,.int .i64 dd,.int .i64 us,.int .i64 ub] 75,.blk y [.slice Ar a.rules.length L,.slice Az a.zones.length M,.slice Al a.links.length K,.slice As a.shifts.length cs] 27] O') ?_ ?_
 ·repeat (first|refine walk ?_|(refine jn ?_;(try intro F);((refine bx ?_;intro J));refine fin ?_))
  exact⟨rfl,_,_,SFA,SOA⟩
 rintro fr' O' ⟨y,z,s,hO⟩
 apply thenQ_n
 refine ZcG s hO ?_
 clear s hO fr' O'
 refine W_seq ?_
 refine Zb4 (fun fr' O'=>Sub [(2,.int .i64 i),(3,.pointer (some ⟨y,0,none⟩)),(4,.pointer (some ⟨z,0,none⟩))] fr'/\SubO [.blk z [.int .i64 off,.int .i64 kind,.int .i64 save,.string set,.string c,.bool g,.int .i64 year,.int .i64 month,.int .i64 dk,.int .i64 dw,.int .i64 dd,.int .i64 us,.int .i64 ub] 75,.blk y [.slice Ar a.rules.length L,.slice Az a.zones.length M,.slice Al a.links.length K,.slice As a.shifts.length cs] 27] O') ?_ ?_
 ·repeat (first|refine Zhd ?_|(refine jg ?_;(try intro F);(first|(apply Zad (h:=fun w' d _=>f w' d);rfl;rintro v O' ⟨A3,D,rfl,rfl⟩)|(apply Zad (h:=fun w' d _=>u w' d);rfl;rintro v O' ⟨A5,c5,rfl,rfl⟩)|(refine bx ?_;intro J));first|refine⟨_,EndsA,QFRfT0,?_⟩|refine fin ?_))
  exact⟨rfl,SFA,SOA⟩
 rintro fr' O' ⟨s,hO⟩
 apply thenQ_n
 refine ZcG s hO ?_
 clear s hO fr' O'
 refine W_seq ?_
 refine Zb4 (fun fr' O'=>Sub [(2,.int .i64 i),(3,.pointer (some ⟨y,0,none⟩)),(4,.pointer (some ⟨z,0,none⟩))] fr'/\SubO [.blk z [.int .i64 off,.int .i64 kind,.int .i64 save,.string set,.string c,.bool g,.int .i64 year,.int .i64 month,.int .i64 dk,.int .i64 dw,.int .i64 dd,.int .i64 us,.int .i64 ub] 75,.blk y [.slice Ar a.rules.length L,.slice Az a.zones.length M,.slice Al a.links.length K,.slice As a.shifts.length cs] 27] O') ?_ ?_
 ·cases T with
  | false =>
   repeat (first|refine Zhd ?_|(refine jg ?_;(try intro F);(first|(apply Zad (h:=fun w' d _=>f w' d);rfl;rintro v O' ⟨A3,D,rfl,rfl⟩)|(apply Zad (h:=fun w' d _=>u w' d);rfl;rintro v O' ⟨A5,c5,rfl,rfl⟩)|(refine bx ?_;intro J));first|refine⟨_,EndsA,QFRfT0,?_⟩|refine fin ?_))
   exact⟨rfl,SFA,SOA⟩
  | true =>
   have hf2:decide (kind=2)=false:=by
    cases h:decide (kind=2)
    ·rfl
    ·have:=n3 _ rfl h;cases this
   repeat (first|refine und ?_|(apply RL_pu;rfl;exact ZDq)|refine walk1 ?_)
   exact⟨rfl,SFA,SOA⟩
 rintro fr' O' ⟨s,hO⟩
 apply thenQ_n
 refine ZcG s hO ?_
 clear s hO fr' O'
 refine W_seq ?_
 refine Zb4 (fun fr' O'=>Sub [(2,.int .i64 i),(3,.pointer (some ⟨y,0,none⟩)),(4,.pointer (some ⟨z,0,none⟩))] fr'/\SubO [.blk z [.int .i64 off,.int .i64 kind,.int .i64 save,.string set,.string c,.bool g,.int .i64 year,.int .i64 month,.int .i64 dk,.int .i64 dw,.int .i64 dd,.int .i64 us,.int .i64 ub] 75,.blk y [.slice Ar a.rules.length L,.slice Az a.zones.length M,.slice Al a.links.length K,.slice As a.shifts.length cs] 27] O') ?_ ?_
 ·cases q2 with
  | false =>
   repeat (first|refine und ?_|(apply RL_pu;rfl;exact ZDp)|refine walk1 ?_)
   exact⟨rfl,SFA,SOA⟩
  | true =>
   replace r0:=r0 rfl
   repeat (first|(apply RL_pu;rfl;exact ZDo)|refine walk1 ?_|(refine jg ?_;(try intro F);(first|(apply Zad (h:=fun w' d _=>f w' d);rfl;rintro v O' ⟨A3,D,rfl,rfl⟩)|(refine bx ?_;intro J));first|refine⟨_,EndsA,QFRfT3,?_⟩|refine fin ?_))
   exact⟨rfl,SFA,SOA⟩
 rintro fr' O' ⟨s,hO⟩
 apply thenQ_n
 refine ZcG s hO ?_
 clear s hO fr' O'
 refine W_seq ?_
 refine Zb4 (fun fr' O'=>Sub [(2,.int .i64 i),(3,.pointer (some ⟨y,0,none⟩)),(4,.pointer (some ⟨z,0,none⟩))] fr'/\SubO [.blk z [.int .i64 off,.int .i64 kind,.int .i64 save,.string set,.string c,.bool g,.int .i64 year,.int .i64 month,.int .i64 dk,.int .i64 dw,.int .i64 dd,.int .i64 us,.int .i64 ub] 75,.blk y [.slice Ar a.rules.length L,.slice Az a.zones.length M,.slice Al a.links.length K,.slice As a.shifts.length cs] 27] O') ?_ ?_
 ·cases q1 with
  | false =>
   repeat (first|refine und ?_|(apply RL_pu;rfl;exact Zzz)|refine walk1 ?_)
   exact⟨rfl,SFA,SOA⟩
  | true =>
   replace s1:=s1 rfl
   replace s2:=s2 rfl
   repeat (first|refine und ?_|(apply RL_pu;rfl;exact Zzz)|refine walk1 ?_)
   exact⟨rfl,SFA,SOA⟩
 rintro fr' O' ⟨s,hO⟩
 apply thenQ_n
 refine ZcG s hO ?_
 clear s hO fr' O'
 repeat (first|refine walk ?_|(refine jg ?_;(try intro F);((apply Zad (h:=fun w' d _=>u w' d);rfl;rintro v O' ⟨A5,c5,rfl,rfl⟩));refine fin ?_))
 refine Zah [(3,.pointer (some ⟨y,0,none⟩)),(4,.pointer (some ⟨z,0,none⟩)),(7,.slice A5 S.length c5)] [.row (.slice A5 S.length c5) 155 2 S.length (S.flatMap Za6),.blk z [.int .i64 off,.int .i64 kind,.int .i64 save,.string set,.string c,.bool g,.int .i64 year,.int .i64 month,.int .i64 dk,.int .i64 dw,.int .i64 dd,.int .i64 us,.int .i64 ub] 75,.blk y [.slice Ar a.rules.length L,.slice Az a.zones.length M,.slice Al a.links.length K,.slice As a.shifts.length cs] 27]
  (fun j:Nat=>[(8,.int .i64 j)]) (fun _=>[]) (fun j=>j<=S.length/\((S.drop j).any fun x => !inO off||!inO (off+x.1))=Q) (fun j=>S.length - j) 0 SFA SOA ⟨Nat.zero_le _,hQ⟩ ?_
 clear hQ
 rintro j ⟨hj,W⟩
 repeat (first|refine walk ?_|(refine jn ?_;(try intro F);((refine bx ?_;intro J));refine fin ?_))
 refine Zaf rfl (fun hc=>?_) (fun hc=>?_)
 ·simp only[decide_eq_true_eq,Int.ofNat_lt]at hc
  have hg1:=ZaD Za6.len S j _ 0 _ (List.getElem?_eq_getElem hc) rfl
  have hgx:=ZaD Za6.len S j _ 0 _ (List.getElem?_eq_getElem hc) (show(Za6 S[j])[0]?=some (.int .i64 S[j].1) from rfl)
  have ai:=Y _ (List.getElem_mem hc)
  rw[Zag hc,List.any_cons]at W
  generalize S[j]=x at *
  have aa:=fun w'=>ZjH (off+x.1) w'
  cases hz1:inO off with
  | false =>
   rw[hz1]at W N
   obtain rfl:true=Q:=by simpa using W
   repeat (first|refine walk ?_|(refine jg ?_;(try intro F);((refine Zab (fun w' _=>N w') ?_));refine fin ?_))
   exact rtA
  | true =>
   rw[hz1]at W N
   have ah : -54000<=off/\off<=54000:=by unfold inO at hz1;simpa using hz1
   cases hz2:inO (off+x.1) with
   | false =>
    rw[hz2]at W aa
    obtain rfl:true=Q:=by simpa using W
    repeat (first|(apply RD_Q;rfl;rfl;decide +kernel;rfl;rfl;exact Zyu)|refine walk1 ?_|(refine jg ?_;(try intro F);(first|(refine Zab (fun w' _=>N w') ?_)|(refine Zab (fun w' _=>aa w') ?_));first|refine⟨_,EndsA,ZyT,?_⟩|refine fin ?_))
    exact rtA
   | true =>
    rw[hz2]at W aa
    repeat (first|(apply RD_Q;rfl;rfl;decide +kernel;rfl;rfl;exact Zyu)|refine walk1 ?_|(refine jg ?_;(try intro F);(first|(refine Zab (fun w' _=>N w') ?_)|(refine Zab (fun w' _=>aa w') ?_));first|refine⟨_,EndsA,ZyT,?_⟩|refine fin ?_))
    exact⟨j+1,OA,⟨OA,by simpa using W⟩,SFA,SOA⟩
 ·simp only[decide_eq_false_iff_not,Int.ofNat_lt]at hc
  rw[List.drop_eq_nil_of_le (by omega),List.any_nil]at W
  subst W
  rw[if_neg (by decide),t]
  obtain⟨E,un1⟩:∃ v,(!decide (kind=1))=v:=⟨_,rfl⟩
  obtain⟨H,un2⟩:∃ v,(!decide (kind=2))=v:=⟨_,rfl⟩
  rw[un1,un2]
  obtain⟨U,hU⟩:∃ U,(E&&X||H&&v2||!g&&v3)=U:=⟨_,rfl⟩
  rw[hU]
  apply W_exit
  repeat (first|apply thenQ_e|apply blockQ_hit)
  apply thenQ_n
  refine W_seq ?_
  refine Zb4 (fun fr' O'=>∃ b9:Nat,Sub [(3,.pointer (some ⟨y,0,none⟩)),(4,.pointer (some ⟨z,0,none⟩)),(9,.pointer (some ⟨b9,0,none⟩))] fr'/\SubO [.blk b9 [.bool g,.int .i64 year,.int .i64 month,.int .i64 dk,.int .i64 dw,.int .i64 dd,.int .i64 us,.int .i64 ub] 73,.blk z [.int .i64 off,.int .i64 kind,.int .i64 save,.string set,.string c,.bool g,.int .i64 year,.int .i64 month,.int .i64 dk,.int .i64 dw,.int .i64 dd,.int .i64 us,.int .i64 ub] 75,.blk y [.slice Ar a.rules.length L,.slice Az a.zones.length M,.slice Al a.links.length K,.slice As a.shifts.length cs] 27] O') ?_ ?_
  ·repeat (first|refine walk ?_|(refine jn ?_;(try intro F);((refine bx ?_;intro J));refine fin ?_))
   exact⟨rfl,_,SFA,SOA⟩
  rintro fr' O' ⟨b9,s,hO⟩
  apply thenQ_n
  refine ZcG s hO ?_
  clear s hO fr' O'
  refine W_seq ?_
  refine Zb4 (fun fr' O'=>Sub [(3,.pointer (some ⟨y,0,none⟩)),(4,.pointer (some ⟨z,0,none⟩)),(9,.pointer (some ⟨b9,0,none⟩))] fr'/\SubO [.blk b9 [.bool false,.int .i64 year,.int .i64 month,.int .i64 dk,.int .i64 dw,.int .i64 dd,.int .i64 us,.int .i64 ub] 73,.blk z [.int .i64 off,.int .i64 kind,.int .i64 save,.string set,.string c,.bool g,.int .i64 year,.int .i64 month,.int .i64 dk,.int .i64 dw,.int .i64 dd,.int .i64 us,.int .i64 ub] 75,.blk y [.slice Ar a.rules.length L,.slice Az a.zones.length M,.slice Al a.links.length K,.slice As a.shifts.length cs] 27] O') ?_ ?_
  ·repeat (first|refine walk ?_|(refine jn ?_;(try intro F);((refine bx ?_;intro J));refine fin ?_))
   exact⟨rfl,SFA,SOA⟩
  rintro fr' O' ⟨s,hO⟩
  apply thenQ_n
  refine ZcG s hO ?_
  clear s hO fr' O'
  refine W_seq ?_
  refine W_seq ?_
  refine Zb4 (fun fr' O'=>Sub [(3,.pointer (some ⟨y,0,none⟩)),(4,.pointer (some ⟨z,0,none⟩)),(104,.bool U)] fr'/\SubO [.blk z [.int .i64 off,.int .i64 kind,.int .i64 save,.string set,.string c,.bool g,.int .i64 year,.int .i64 month,.int .i64 dk,.int .i64 dw,.int .i64 dd,.int .i64 us,.int .i64 ub] 75,.blk y [.slice Ar a.rules.length L,.slice Az a.zones.length M,.slice Al a.links.length K,.slice As a.shifts.length cs] 27] O') ?_ ?_
  ·have hd:(true=U/\E=true/\X=true)\/(true=U/\E=false/\H=true/\v2=true)\/(true=U/\E=true/\X=false/\H=true/\v2=true)\/(true=U/\E=false/\H=false/\g=false/\v3=true)\/(true=U/\E=false/\H=true/\v2=false/\g=false/\v3=true)\/(true=U/\E=true/\X=false/\H=false/\g=false/\v3=true)\/(true=U/\E=true/\X=false/\H=true/\v2=false/\g=false/\v3=true)\/(false=U/\E=false/\H=false/\g=true)\/(false=U/\E=false/\H=false/\g=false/\v3=false)\/(false=U/\E=false/\H=true/\v2=false/\g=true)\/(false=U/\E=false/\H=true/\v2=false/\g=false/\v3=false)\/(false=U/\E=true/\X=false/\H=false/\g=true)\/(false=U/\E=true/\X=false/\H=false/\g=false/\v3=false)\/(false=U/\E=true/\X=false/\H=true/\v2=false/\g=true)\/(false=U/\E=true/\X=false/\H=true/\v2=false/\g=false/\v3=false):=by
    revert hU
    cases E <;> cases X <;> cases H <;> cases v2 <;> cases g <;> cases v3 <;> simp
   clear hU Z
   rcases hd with⟨rfl,rfl,rfl⟩|⟨rfl,rfl,rfl,rfl⟩|⟨rfl,rfl,rfl,rfl,rfl⟩|⟨rfl,rfl,rfl,rfl,rfl⟩|⟨rfl,rfl,rfl,rfl,rfl,rfl⟩|⟨rfl,rfl,rfl,rfl,rfl,rfl⟩|⟨rfl,rfl,rfl,rfl,rfl,rfl,rfl⟩|⟨rfl,rfl,rfl,rfl⟩|⟨rfl,rfl,rfl,rfl,rfl⟩|⟨rfl,rfl,rfl,rfl,rfl⟩|⟨rfl,rfl,rfl,rfl,rfl,rfl⟩|⟨rfl,rfl,rfl,rfl,rfl⟩|⟨rfl,rfl,rfl,rfl,rfl,rfl⟩|⟨rfl,rfl,rfl,rfl,rfl,rfl⟩|⟨rfl,rfl,rfl,rfl,rfl,rfl,rfl⟩
   all_goals
    repeat (first|refine und ?_|(apply RL_pu;rfl;exact ZDm)|refine walk1 ?_)
    exact⟨rfl,SFA,SOA⟩
  rintro fr' O' ⟨s,hO⟩
  apply thenQ_n
  refine ZcG s hO ?_
  clear s hO fr' O' hU
  cases U with
  | true =>
   rw[if_pos rfl]
   repeat (first|refine walk ?_|(refine jn ?_;(try intro F);((refine bx ?_;intro J));refine fin ?_))
   exact rtA
  | false =>
   rw[if_neg (by decide)]
   repeat (first|refine walk ?_|(refine jg ?_;(try intro F);(first|(apply Zad (h:=fun w' d _=>f w' d);rfl;rintro v O' ⟨A3,D,rfl,rfl⟩)|(refine ZaH (fun w' d hO=>Z A3 D w' d (ZaJ DRule.len (hO.of (A := .row (.slice A3 R.length D) 68 11 R.length (R.flatMap DRule.enc)) cS_))) ?_));refine fin ?_)|(refine jn ?_;(try intro F);((apply Zan;exact PuA));refine fin ?_))
   exact rtA
