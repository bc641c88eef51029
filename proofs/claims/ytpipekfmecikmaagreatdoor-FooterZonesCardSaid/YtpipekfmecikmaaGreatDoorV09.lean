/- Parts of the proof. -/
import Derived.Test.YtpipekfmecikmaaGreatDoorV08
import Derived.Test.YtpipekfmecikmaaGreatDoorV06
set_option maxHeartbeats 4000000
set_option linter.unusedVariables false
set_option linter.unusedSimpArgs false
namespace Go.Proofs.YtpipekfmecikmaaGreatDoor
open Go Go.RowKit Go.Wk
attribute [local irreducible] W RL Does Zat Zaj retQ Calls Pu Stp RD Qy Ay Zak ZbK Zgy RW
def ZuN (l:List DRule):Nat × Int :=
 if (l.any fun r=>decide (r.save=0))=false\/(Zah l<0/\(l.any fun r => !decide (r.save=0)&&!decide (r.save=Zah l))=true) then (0,14)
 else if Zff l=false then (0,16)
 else (0,0)
def outR (l:List DRule):Option (Nat × Int)->Nat × Int
 | some x=>x
 | none=>ZuN l
theorem ZuR (l:List DRule):Zcq l=outR l (ZaW (Zah l) l 0):=by
 unfold Zcq outR ZuN
 cases ZaW (Zah l) l 0 <;> rfl
theorem Zqd (r:DRule)(least:Int):Zbm r least=if ZcJ r least 0=false then 3 else if ZcJ r least 1=false then 12 else if ZcJ r least 2=false then 3 else if ZcJ r least 3=false then 3 else if ZcJ r least 4=false then 14 else if ZcJ r least 5=false then 15 else 0:=by
 by_cases h:r.to<r.from_
 ·have e:ZcJ r least 1=false:=decide_eq_false (by omega)
  rw[e,if_pos rfl,Zbm,if_pos h];rfl
 ·have e:ZcJ r least 1=true:=decide_eq_true (by omega)
  rw[e,if_neg (show ¬ true=false by decide),Zbm,if_neg h];rfl
theorem Zsh (l:List DRule):∀ m:Int,-4611686018427387904<=m->m<=4611686018427387904->(∀ r∈l,-4611686018427387904<=r.save/\r.save<=4611686018427387904) -> -4611686018427387904<=l.foldl (fun m r=>min m r.save) m/\l.foldl (fun m r=>min m r.save) m<=4611686018427387904:=by
 induction l with
 | nil=>intro m h1 h2 _;exact⟨h1,h2⟩
 | cons r l ih =>
  intro m h1 h2 h
  have hr:=h r List.mem_cons_self
  exact ih (min m r.save) (by omega) (by omega) fun x hx=>h x (List.mem_cons_of_mem _ hx)
theorem ZhU (l:List DRule):∀ m:Int,-9223372036854775808<=m->m<=0->(∀ r∈l,-9223372036854775808<=r.save/\r.save<=9223372036854775807) -> -9223372036854775808<=l.foldl (fun m r=>min m r.save) m/\l.foldl (fun m r=>min m r.save) m<=0:=by
 induction l with
 | nil=>intro m h1 h2 _;exact⟨h1,h2⟩
 | cons r l ih =>
  intro m h1 h2 h
  have hr:=h r List.mem_cons_self
  exact ih (min m r.save) (by omega) (by omega) fun x hx=>h x (List.mem_cons_of_mem _ hx)
def Zl5 (j:Nat):FuncId:=if j=0 then 390 else if j=1 then 392 else if j=2 then 393 else if j=3 then 395 else if j=4 then 397 else 398
def errN (j:Nat):Int:=if j=0 then 3 else if j=1 then 12 else if j=2 then 3 else if j=3 then 3 else if j=4 then 14 else 15
def Zgc (b:Nat->Bool):Nat->Int
 | 0=>0
 | n+1=>if b (5 - n)=false then errN (5 - n) else Zgc b n
theorem Zlb (r:DRule)(least:Int):Zbm r least=Zgc (ZcJ r least) 6:=Zqd r least
theorem ZqS (j:Nat)(hj:j<6):(ZfG.drop (((j:Int)).toNat*2)).take 2=[fnV (Zl5 j),.int .i64 (errN j)]:=by
 have h:j=0\/j=1\/j=2\/j=3\/j=4\/j=5:=by omega
 rcases h with rfl|rfl|rfl|rfl|rfl|rfl <;> rfl
theorem ZqR (j:Nat)(hj:j<6)(r:DRule)(least:Int)(w:World)(hG:Glob w)(hl : -9223372036854775808<=least/\least<=0)(hs:(r.letter.size:Int)<=9223372036854775807) :
  Does Tryz.prog (Zl5 j) [.agg (DRule.enc r).toArray,.int .i64 least] w (fun v O=>v = .bool (ZcJ r least j)/\O=[]):=by
 have h:j=0\/j=1\/j=2\/j=3\/j=4\/j=5:=by omega
 rcases h with rfl|rfl|rfl|rfl|rfl|rfl
 ·exact ZqY r least w
 ·exact ZqX r least w
 ·exact ZqW r least w hG
 ·exact ZqV r least hl w
 ·exact ZqU r least w
 ·exact ZqT r least hs w
theorem ZnS (j:Nat):Body Tryz.prog (Zl5 j):=by
 unfold Zl5
 split
 ·infer_instance
 split
 ·infer_instance
 split
 ·infer_instance
 split
 ·infer_instance
 split <;> infer_instance
theorem Zw7 {G:Prop}(h:G:=by(first|exact PuI|(apply Pu_loadON;rfl;exact hG.con;rfl))):G:=h
theorem Zw6 {G:Prop}(h:G:=by(apply Zmv;rfl;rfl;omega;omega;exact hcc)):G:=h
theorem Zle (A:Option Addr)(c:Nat)(l:List DRule)(w:World)(hG:Glob w)(hA:RdSl w A c DRule.enc 11 l)(hn:l.length<=1000000)(hR:∀ r∈l,(-9223372036854775808<=r.save/\r.save<=9223372036854775807)/\(r.letter.size:Int)<=9223372036854775807) :
  Does Tryz.prog 176 [.slice A l.length c] w (fun v O=>v = .tuple #[.int .i64 (Zcq l).1,.int .i64 (Zcq l).2]/\O=[]):=by
 have hls:=ZhU l 0 (by omega) (by omega) fun r hr=>(hR r hr).1
 have hlast:=fun w' (hw:Bel w.heap.size w w')=>Zsm A c l w' (hA.up hw) hn
 have hany1:=fun w' (hw:Bel w.heap.size w w')=>Zeq A c l 226 [] [] (fun r=>decide (r.save=0)) w' (hA.up hw) fun r w2 _=>ZsO r w2
 have hany2:=fun(b:Nat) w' (hw:Bel w.heap.size w w') (hc:Zau w' ⟨b,0,none⟩ [.int .i64 (Zah l)])=>Zeq A c l 227 [] [.pointer (some ⟨b,0,none⟩)] (fun r => !decide (r.save=0)&&!decide (r.save=Zah l)) w' (hA.up hw) fun r w2 h2=>ZsN r ⟨b,0,none⟩ (Zah l) w2 ((hc.up h2 (Nat.le_refl _)) 0 _ rfl)
 have hlst:=fun w' (hw:Bel w.heap.size w w')=>Zdh A c l w' (hA.up hw)
 obtain⟨res,hres⟩:∃ res,Zcq l=res:=⟨_,rfl⟩
 rw[hres]
 rw[ZuR]at hres
 have htl:∃ t,ZuN l=t:=⟨_,rfl⟩
 change -9223372036854775808<=Zah l/\Zah l<=0 at hls
 refine Zaa Tryz.func176 rfl rfl rfl rfl ?_
 repeat (first|refine walk ?_|(refine jg ?_;(try intro F);(first|(refine Zab hlst ?_)|(refine bx ?_;intro bk)|(refine stA ?_));refine fin ?_)|(refine jn ?_;(try intro F);(first|(refine bx ?_;intro bk)|(refine stA ?_)|(apply Zac;exact PuA));refine fin ?_)|(apply RD_W;rfl;intro bk))
 refine Zai [(0,.slice A l.length c),(4,.pointer (some ⟨bk,0,none⟩)),(13,.slice A l.length c),(14,.int .i64 l.length)] [.blk bk [.int .i64 (Zah l)] 2] (fun k:Nat=>[(15,.int .i64 k)]) (fun _=>[]) (fun k=>k<=l.length/\outR l (ZaW (Zah l) (l.drop k) k)=res) (fun k=>l.length - k) 0 SFA SOA ⟨Nat.zero_le _,hres⟩ ?_
 rintro k ⟨hk,hi⟩
 repeat (first|refine walk ?_|(refine jn ?_;(try intro F);(first|(refine bx ?_;intro bk)|(refine stA ?_)|(apply Zac;exact PuA));refine fin ?_)|(apply RD_W;rfl;intro bk))
 refine Zaf rfl (fun h=>?_) (fun h=>?_)
 ·have hlt:k<l.length:=by simpa using h
  obtain⟨hna,hca⟩:=hA.rd k _ (List.getElem?_eq_getElem hlt)
  have hRr:=hR l[k] (List.getElem_mem hlt)
  rw[Zag hlt,ZaW,Zlb]at hi
  generalize l[k]=r at *
  have hcs:=fun j (hj:j<6) w' (hw:Bel w.heap.size w w')=>ZqR j hj r (Zah l) w' (hG.up hw) hls hRr.2
  generalize ZcJ r (Zah l)=bb at *
  obtain⟨nm,fr,to,mo,⟨dk,dw,dd⟩,⟨cs,cb⟩,sv,le⟩:=r
  simp only[DRule.enc]at hca hcs
  obtain⟨b4,hb4⟩:∃ b4,bk=b4:=⟨_,rfl⟩
  rw[hb4]at *
  clear hb4 bk
  repeat (first|(apply RL_pu;rfl;exact Zw7)|(apply RD_Q;rfl;rfl;decide +kernel;rfl;rfl;exact QyRsE0)|refine walk1 ?_|(refine jn ?_;(try intro F);(first|(refine bx ?_;intro bk)|(refine stA ?_)|(apply Zac;first|exact Zw7|exact PuA));first|refine⟨_,EndsA,QFRsE0,?_⟩|refine fin ?_)|(apply RD_W;rfl;intro bk))
  refine Zai [(20,.agg ZfG.toArray),(6,.pointer (some ⟨bk,0,none⟩)),(5,.int .i64 k),(15,.int .i64 k),(0,.slice A l.length c),(4,.pointer (some ⟨b4,0,none⟩)),(13,.slice A l.length c),(14,.int .i64 l.length)] [.blk bk [.string nm,.int .i64 fr,.int .i64 to,.int .i64 mo,.int .i64 dk,.int .i64 dw,.int .i64 dd,.int .i64 cs,.int .i64 cb,.int .i64 sv,.string le] 68,.blk b4 [.int .i64 (Zah l)] 2] (fun j:Nat=>[(21,.int .i64 j)]) (fun _=>[]) (fun j=>j<=6/\Zgc bb (6 - j)=Zgc bb 6) (fun j=>6 - j) 0 SFA SOA ⟨Nat.zero_le _,rfl⟩ ?_
  rintro j ⟨hj,he⟩
  repeat (first|refine walk ?_|(refine jn ?_;(try intro F);(first|(refine bx ?_;intro bk)|(refine stA ?_)|(apply Zac;exact PuA));refine fin ?_)|(apply RD_W;rfl;intro bk))
  refine Zaf rfl (fun h2=>?_) (fun h2=>?_)
  ·have hj6:j<6:=by have:=of_decide_eq_true h2;omega
   have hcj:=hcs j hj6
   have hcc:=ZqS j hj6
   haveI:=ZnS j
   rw[show 6 - j=(5 - j)+1 by omega,Zgc,show 5 - (5 - j)=j by omega]at he
   have hne:errN j≠0:=by
    unfold errN
    repeat' split
    all_goals decide
   generalize Zl5 j=cf at *
   generalize bb j=bj at *
   generalize errN j=ej at *
   repeat (first|(apply RL_pu;rfl;exact Zw6)|(apply RD_Q;rfl;rfl;decide +kernel;rfl;rfl;exact QyRsE1)|refine walk1 ?_|(refine jg ?_;(try intro F);(first|(apply Zay (f:=cf) (us:=[]) (cs:=[]) (vs:=[.agg #[.string nm,.int .i64 fr,.int .i64 to,.int .i64 mo,.int .i64 dk,.int .i64 dw,.int .i64 dd,.int .i64 cs,.int .i64 cb,.int .i64 sv,.string le],.int .i64 (Zah l)]) (h:=fun w' hw _=>hcj w' hw);rfl;rfl;rintro v O' ⟨rfl,rfl⟩)|(refine bx ?_;intro bk)|(refine stA ?_));first|refine⟨_,EndsA,QFRsE1,?_⟩|refine fin ?_)|(refine jn ?_;(try intro F);(first|(refine bx ?_;intro bk)|(refine stA ?_)|(apply Zac;first|exact Zw6|exact PuA));first|refine⟨_,EndsA,QFRsE1,?_⟩|refine fin ?_)|(apply RD_W;rfl;intro bk))
   refine Zaf rfl (fun h3=>?_) (fun h3=>?_)
   ·have hb:bj=false:=by simpa using h3
    rw[if_pos hb]at he
    rw[<- he,if_neg hne]at hi
    repeat (first|refine walk ?_|(refine jn ?_;(try intro F);(first|(refine bx ?_;intro bk)|(refine stA ?_)|(apply Zac;exact PuA));refine fin ?_)|(apply RD_W;rfl;intro bk))
    exact ret_2 _ _ [] (.tmp rfl) (.tmp rfl) .nil ⟨by rw[<- hi];rfl,rfl⟩
   ·have hb:bj=true:=by simpa using h3
    rw[if_neg (by rw[hb];decide)]at he
    repeat (first|refine walk ?_|(refine jn ?_;(try intro F);(first|(refine bx ?_;intro bk)|(refine stA ?_)|(apply Zac;exact PuA));refine fin ?_)|(apply RD_W;rfl;intro bk))
    exact⟨j+1,OA,⟨OA,by rw[show 6 - (j+1)=5 - j by omega];exact he⟩,SFA,SOA⟩
  ·have hj6:j=6:=by have:=of_decide_eq_false h2;omega
   subst hj6
   rw[show Zgc bb (6 - 6)=0 from rfl]at he
   rw[<- he,if_pos rfl]at hi
   repeat (first|refine walk ?_|(refine jn ?_;(try intro F);(first|(refine bx ?_;intro bk)|(refine stA ?_)|(apply Zac;exact PuA));refine fin ?_)|(apply RD_W;rfl;intro bk))
   exact⟨k+1,OA,⟨OA,hi⟩,SFA,SOA⟩
 ·have hkl:k=l.length:=by
   have:=of_decide_eq_false h
   omega
  subst hkl
  rw[List.drop_length,ZaW,outR,ZuN]at hi
  generalize l.any (fun r=>decide (r.save=0))=a1 at *
  generalize l.any (fun r => !decide (r.save=0)&&!decide (r.save=Zah l))=a2 at *
  generalize Zff l=a3 at *
  have hany3:=hany2 bk
  clear hany2 hlst
  repeat' (first|(refine js ?_;(first|(refine Zab hany1 ?_)|(apply Zae (h:=fun w' hw hH=>hany3 w' hw (hH.cells (by repeat' constructor)));rfl;rintro v O' ⟨rfl,rfl⟩)|(refine Zab hlast ?_)|(refine bx ?_;intro bk)))|refine walk ?_|(refine Zdo ?_;intro F;(first|(refine Zab hany1 ?_)|(apply Zae (h:=fun w' hw hH=>hany3 w' hw (hH.cells (by repeat' constructor)));rfl;rintro v O' ⟨rfl,rfl⟩)|(refine Zab hlast ?_));refine⟨_,EndsA,SubO.right _ _,?_⟩)|(refine RD_Lw ?_;intro F;(first|(refine Zab hany1 ?_)|(apply Zae (h:=fun w' hw hH=>hany3 w' hw (hH.cells (by repeat' constructor)));rfl;rintro v O' ⟨rfl,rfl⟩)|(refine Zab hlast ?_)|(refine bx ?_;intro bk)|(refine stA ?_)|(apply Zac;exact PuA));refine⟨_,EndsA,QFA,?_⟩)|(apply RD_W;rfl;intro bk)|refine und ?_|(refine Zam rfl rfl rfl (fun hc=>?_) (fun hc=>?_))|(refine Zas rfl rfl rfl (fun hc=>?_) (fun hc=>?_))|(refine Zaf rfl (fun hc=>?_) (fun hc=>?_)))
  all_goals clear hany1 hany3 hlast hG hA hR
  all_goals subst hi
  all_goals try(have h0:¬ Zah l<0:=of_decide_eq_false (by assumption);simp only[h0,false_and,or_false])
  all_goals exact clo2
end Go.Proofs.YtpipekfmecikmaaGreatDoor
namespace Go.Proofs.YtpipekfmecikmaaGreatDoor
open Go Go.RowKit Go.Wk
attribute [local irreducible] W RL Does Zat Zaj retQ Calls Pu Stp RD Qy Ay Zak
theorem ZvS {G:Prop}(h:G:=by(apply Zc0;rfl;rfl;(constructor <;> omega))):G:=h
theorem Zgz (y m:Int)(d:DDay) : -2000000000000<=(onD y m d).1/\(onD y m d).1<=2000000000000:=by
 unfold onD
 split
 ·exact⟨by decide,by decide⟩
 ·rename_i h1
  split
  ·exact⟨by decide,by decide⟩
  ·rename_i h2
   split
   ·exact⟨by decide,by decide⟩
   ·simp only[Bool.not_eq_false]at h1 h2
    have hb:=Zg4 h1
    have hl:=Zc4 y m
    have hd:=Zcm h2
    simp only[ZeV,Zbp,Za1]
    repeat' split
    all_goals omega
theorem Zk9 (u:DUntil)(hc : -604799<=u.at_.sec/\u.at_.sec<=604799)(w:World)(hG:Glob w):Does Tryz.prog 210 [.agg (DUntil.enc u).toArray] w (fun v O=>v = .int .i64 (86400*(onD u.year u.month u.day).1+u.at_.sec)/\O=[]):=by
 have ho:=fun w' (hw:Bel w.heap.size w w')=>Zns u.year u.month u.day w' (hG.up hw)
 have hb:=Zgz u.year u.month u.day
 generalize onD u.year u.month u.day=x at *
 obtain⟨x1,x2⟩:=x
 obtain⟨is,yr,mo,⟨dk,dw,dd⟩,⟨cs,cb⟩⟩:=u
 simp only at *
 show Does _ _ [.agg #[.bool is,.int .i64 yr,.int .i64 mo,.int .i64 dk,.int .i64 dw,.int .i64 dd,.int .i64 cs,.int .i64 cb]] w _
 refine Zaa Tryz.func210 rfl rfl rfl rfl ?_
 repeat' (first|(apply RL_pu;rfl;exact ZvS)|(refine js ?_;(first|(refine Zab ho ?_)|(refine bx ?_;intro bk)))|refine walk1 ?_|(refine Zaf rfl (fun hc=>?_) (fun hc=>?_)))
 all_goals exact clo1
theorem Zhe {G:Prop}(h:G:=by(apply Pu_add;rfl;rfl;(constructor <;> (simp only[decide_eq_false_iff_not,decide_eq_true_eq]at *;omega)))):G:=h
theorem Zhn (u:DUntil)(least:Int)(w:World)(hG:Glob w):Does Tryz.prog 241 [.agg (DUntil.enc u).toArray,.int .i64 least] w (fun v O=>v = .int .i64 (ZaI u least)/\O=[]):=by
 have ho:=fun w' (hw:Bel w.heap.size w w')=>Zns u.year u.month u.day w' (hG.up hw)
 have hcc:=Zb4 u.at_
 have hcb:ZaH u.at_=true -> -604799<=u.at_.sec/\u.at_.sec<=604799:=fun hc=>by
  simp only[ZaH,Bool.and_eq_true,decide_eq_true_eq]at hc
  omega
 unfold ZaI
 generalize onD u.year u.month u.day=x at *
 generalize ZaH u.at_=y at *
 obtain⟨x1,x2⟩:=x
 obtain⟨is,yr,mo,⟨dk,dw,dd⟩,⟨cs,cb⟩⟩:=u
 simp only at *
 cases y
 ·clear hcb
  show Does _ _ [.agg #[.bool is,.int .i64 yr,.int .i64 mo,.int .i64 dk,.int .i64 dw,.int .i64 dd,.int .i64 cs,.int .i64 cb],.int .i64 least] w _
  refine Zaa Tryz.func241 rfl rfl rfl rfl ?_
  repeat' (first|(apply RL_pu;rfl;exact Zhe)|(refine js ?_;(first|(refine Zab (fun w' hw=>hcc w') ?_)|(refine bx ?_;intro bk)))|refine walk1 ?_|refine und ?_|(refine Zam rfl rfl rfl (fun hc=>?_) (fun hc=>?_))|(refine Zas rfl rfl rfl (fun hc=>?_) (fun hc=>?_))|(refine Zaf rfl (fun hc=>?_) (fun hc=>?_)))
  all_goals clear ho hcc hG
  all_goals exact clo1
 ·have hb:=hcb rfl
  clear hcb
  show Does _ _ [.agg #[.bool is,.int .i64 yr,.int .i64 mo,.int .i64 dk,.int .i64 dw,.int .i64 dd,.int .i64 cs,.int .i64 cb],.int .i64 least] w _
  refine Zaa Tryz.func241 rfl rfl rfl rfl ?_
  repeat' (first|(apply RL_pu;rfl;exact Zhe)|(refine js ?_;(first|(refine Zab (fun w' hw=>hcc w') ?_)|(refine Zab ho ?_)|(refine bx ?_;intro bk)))|refine walk1 ?_|refine und ?_|(refine Zam rfl rfl rfl (fun hc=>?_) (fun hc=>?_))|(refine Zas rfl rfl rfl (fun hc=>?_) (fun hc=>?_))|(refine Zaf rfl (fun hc=>?_) (fun hc=>?_)))
  all_goals clear ho hcc hG
  all_goals exact clo1
theorem ZmT {u:DUntil}{least:Int}(h:ZaI u least=0):(-10800<=least/\least<=0)/\-604799<=u.at_.sec/\u.at_.sec<=604799:=by
 unfold ZaI at h
 split at h
 ·cases h
 split at h
 ·cases h
 split at h
 ·cases h
 ·rename_i h1 _ h2
  have hc:ZaH u.at_=true:=by
   cases hc:ZaH u.at_
   ·exact absurd (.inr (.inr hc)) h2
   ·rfl
  simp only[ZaH,Bool.and_eq_true,decide_eq_true_eq]at hc
  omega
theorem ZgA (u:DUntil)(least:Int)(w:World)(hG:Glob w):Does Tryz.prog 207 [.agg (DUntil.enc u).toArray,.int .i64 least] w (fun v O=>v = .tuple #[.int .i64 (ZaB u least).1,.int .i64 (ZaB u least).2]/\O=[]):=by
 have hcu:=fun w' (hw:Bel w.heap.size w w')=>Zhn u least w' (hG.up hw)
 unfold ZaB
 by_cases he:ZaI u least=0
 ·obtain⟨hl,hc⟩:=ZmT he
  have hs:=fun w' (hw:Bel w.heap.size w w')=>Zk9 u hc w' (hG.up hw)
  have hb:=Zgz u.year u.month u.day
  rw[if_neg (by simpa using he)]
  rw[he]at hcu
  generalize onD u.year u.month u.day=x at *
  obtain⟨x1,x2⟩:=x
  clear he
  obtain⟨is,yr,mo,⟨dk,dw,dd⟩,⟨cs,cb⟩⟩:=u
  simp only at *
  show Does _ _ [.agg #[.bool is,.int .i64 yr,.int .i64 mo,.int .i64 dk,.int .i64 dw,.int .i64 dd,.int .i64 cs,.int .i64 cb],.int .i64 least] w _
  refine Zaa Tryz.func207 rfl rfl rfl rfl ?_
  repeat' (first|(apply RL_pu;rfl;exact Zhe)|(refine js ?_;(first|(refine Zab hcu ?_)|(refine Zab hs ?_)|(refine bx ?_;intro bk)))|refine walk1 ?_|(refine Zaf rfl (fun hc=>?_) (fun hc=>?_)))
  all_goals clear hs hcu hG
  all_goals exact clo2
 ·rw[if_pos he]
  generalize ZaI u least=x at *
  obtain⟨is,yr,mo,⟨dk,dw,dd⟩,⟨cs,cb⟩⟩:=u
  simp only at *
  show Does _ _ [.agg #[.bool is,.int .i64 yr,.int .i64 mo,.int .i64 dk,.int .i64 dw,.int .i64 dd,.int .i64 cs,.int .i64 cb],.int .i64 least] w _
  refine Zaa Tryz.func207 rfl rfl rfl rfl ?_
  repeat (first|(apply RL_pu;rfl;exact Zhe)|(refine js ?_;(first|(refine Zab hcu ?_)|(refine bx ?_;intro bk)))|refine walkB1 ?_)
  refine Zaf rfl (fun h1=>?_) (fun h1=>?_)
  ·repeat (first|(refine js ?_;(refine bx ?_;intro bk))|refine walk ?_)
   exact rtB
  ·exact absurd (by simpa using h1) he
end Go.Proofs.YtpipekfmecikmaaGreatDoor
namespace Go.Wk
open Go Go.RowKit
section
variable {P:Program}{n:Nat}{wr:World}{fr:Fr}{O:List It}{ty:TypeId}
theorem Zfj {x y:Operand}{ts:Array TypeId}{k:IntKind}{i j q:Int}(hx:ev fr x=some (.int k i))(hy:ev fr y=some (.int k j))(hq:(if i<j then j else i)=q):Pu P n wr fr O (.call ⟨.builtin .max,#[x,y],ts⟩) ty (.int k q):=by
 rw[<- hq]
 exact Zoh hx hy
theorem Zgp {x y:Operand}{ts:Array TypeId}{k:IntKind}{i j q:Int}(hx:ev fr x=some (.int k i))(hy:ev fr y=some (.int k j))(hq:(if j<i then j else i)=q):Pu P n wr fr O (.call ⟨.builtin .min,#[x,y],ts⟩) ty (.int k q):=by
 rw[<- hq]
 exact ZkL hx hy
end
end Go.Wk
namespace Go.Proofs.YtpipekfmecikmaaGreatDoor
open Go Go.RowKit Go.Wk
attribute [local irreducible] W RL Does Zat Zaj retQ Calls Pu Stp RD Qy Ay Zak
theorem Zjm (r:DRule)(w:World):Does Tryz.prog 81 [.agg (DRule.enc r).toArray] w (fun v O=>v = .int .i64 (lastY r)/\O=[]):=by
 unfold lastY
 obtain⟨nm,fr,to,mo,⟨dk,dw,dd⟩,⟨cs,cb⟩,sv,le⟩:=r
 simp only at *
 show Does _ _ [.agg #[.string nm,.int .i64 fr,.int .i64 to,.int .i64 mo,.int .i64 dk,.int .i64 dw,.int .i64 dd,.int .i64 cs,.int .i64 cb,.int .i64 sv,.string le]] w _
 refine Zaa Tryz.func81 rfl rfl rfl rfl ?_
 rw[show min to 2000000000=if 2000000000<to then 2000000000 else to by split <;> omega]
 repeat' (first|(apply RL_pu;rfl;(apply ZkL;rfl;rfl))|(refine js ?_;(refine bx ?_;intro bk))|refine walk1 ?_|(refine Zaf rfl (fun hc=>?_) (fun hc=>?_)))
 all_goals exact clo1
def evV:Option Zad->Value
 | some e => .agg (Zad.enc e).toArray
 | none => .agg (Zad.enc dEv0).toArray
theorem ZhT (l:List DRule)(h:∀ r∈l,-4611686018427387904<=r.save/\r.save<=4611686018427387904) : -4611686018427387904<=Zah l/\Zah l<=0:=by
 have h1:=Zsh l 0 (by omega) (by omega) h
 refine⟨h1.1,?_⟩
 have:∀ (l:List DRule) (m:Int),l.foldl (fun m r=>min m r.save) m<=m:=fun l=>by
  induction l with
  | nil=>intro m;exact Int.le_refl _
  | cons r l ih=>intro m;have:=ih (min m r.save);simp only[List.foldl_cons];omega
 exact this l 0
theorem ZAj {G:Prop}(h:G:=by(first|exact PuI|(apply Pu_add;rfl;rfl;(constructor <;> omega))|(apply Zc0;rfl;rfl;(constructor <;> omega))|(apply Pu_add;rfl;rfl;(constructor <;> (simp only[decide_eq_false_iff_not,decide_eq_true_eq]at *;omega)))|(apply Zfj;rfl;rfl;exact hmx)|(apply Zoh;rfl;rfl))):G:=h
theorem Zif (A:Option Addr)(c:Nat)(l:List DRule)(i:Nat)(y:Int)(r:DRule)(w:World)(hG:Glob w)(hA:RdSl w A c DRule.enc 11 l)(hi:l[i]?=some r)(hn:l.length<=1000000)(hR:∀ r∈l,-4611686018427387904<=r.save/\r.save<=4611686018427387904) :
  Does Tryz.prog 82 [.slice A l.length c,.int .i64 i,.int .i64 y] w (fun v O=>v = .tuple #[evV (onR (Zah l) r i y),.bool (onR (Zah l) r i y).isSome]/\O=[]):=by
 have hlt:i<l.length:=(List.getElem?_eq_some_iff.1 hi).1
 have hls:=ZhT l hR
 have hlst:=fun w' (hw:Bel w.heap.size w w')=>Zdh A c l w' (hA.up hw)
 have hlast:=Zjm r
 have hcc:=Zb4 r.at_
 have hcb:ZaH r.at_=true -> -604799<=r.at_.sec/\r.at_.sec<=604799:=fun hc=>by
  simp only[ZaH,Bool.and_eq_true,decide_eq_true_eq]at hc
  omega
 have ho:=fun w' (hw:Bel w.heap.size w w')=>Zns y r.month r.day w' (hG.up hw)
 have hob:=Zgz y r.month r.day
 obtain⟨hna,hca⟩:=hA.rd i _ hi
 obtain⟨res,hres⟩:∃ res,onR (Zah l) r i y=res:=⟨_,rfl⟩
 rw[hres]
 unfold onR at hres
 clear hi hR
 generalize Zah l=least at *
 generalize lastY r=ly at *
 generalize onD y r.month r.day=x at *
 generalize ZaH r.at_=z at *
 obtain⟨x1,x2⟩:=x
 obtain⟨nm,fr,to,mo,⟨dk,dw,dd⟩,⟨cs,cb⟩,sv,le⟩:=r
 simp only[DRule.enc]at *
 rw[show max fr (-2000000000)=if fr < -2000000000 then -2000000000 else fr by split <;> omega]at hres
 rw[show max least (-10800)=if least < -10800 then -10800 else least by split <;> omega]at hres
 have hmb : -10800<=(if least < -10800 then (-10800:Int) else least)/\(if least < -10800 then (-10800:Int) else least)<=0:=by split <;> omega
 obtain⟨mx,hmx⟩:∃ mx,(if least < -10800 then (-10800:Int) else least)=mx:=⟨_,rfl⟩
 rw[hmx]at hres hmb
 cases z
 ·clear hcb ho hob
  obtain rfl:none=res:=by rw[<- hres,if_pos (by simp)]
  clear hres
  refine Zaa Tryz.func82 rfl rfl rfl rfl ?_
  repeat' (first|(apply RL_pu;rfl;exact ZAj)|(refine js ?_;(first|(refine Zab hlst ?_)|(refine Zab (fun w' hw=>hlast w') ?_)|(refine Zab (fun w' hw=>hcc w') ?_)|(refine Zab ho ?_)|(refine bx ?_;intro bk)))|refine walk1 ?_|refine und ?_|(refine Zam rfl rfl rfl (fun hc=>?_) (fun hc=>?_))|(refine Zas rfl rfl rfl (fun hc=>?_) (fun hc=>?_))|(refine Zaf rfl (fun hc=>?_) (fun hc=>?_)))
  ·exact absurd (of_decide_eq_true hc) (by omega)
  all_goals first|exact rtC|(exfalso;simp_all;done)
 ·have hb:=hcb rfl
  clear hcb
  refine Zaa Tryz.func82 rfl rfl rfl rfl ?_
  repeat' (first|(apply RL_pu;rfl;exact ZAj)|(refine js ?_;(first|(refine Zab hlst ?_)|(refine Zab (fun w' hw=>hlast w') ?_)|(refine Zab (fun w' hw=>hcc w') ?_)|(refine Zab ho ?_)|(refine bx ?_;intro bk)))|refine walk1 ?_|refine und ?_|(refine Zam rfl rfl rfl (fun hc=>?_) (fun hc=>?_))|(refine Zas rfl rfl rfl (fun hc=>?_) (fun hc=>?_))|(refine Zaf rfl (fun hc=>?_) (fun hc=>?_)))
  ·exact absurd (of_decide_eq_true hc) (by omega)
  ·have h:=of_decide_eq_true hc
   obtain rfl:none=res:=by rw[<- hres,if_pos (.inl h)]
   exact rtC
  ·have h:=of_decide_eq_true hc
   obtain rfl:none=res:=by rw[<- hres,if_pos (.inr (.inl h))]
   exact rtC
  ·have hx:¬ x2=0:=by simpa using hc
   obtain rfl:none=res:=by rw[<- hres,if_neg (fun h=>h.elim (fun h=>absurd h (of_decide_eq_false (by assumption))) (fun h=>h.elim (fun h=>absurd h (of_decide_eq_false (by assumption))) (fun h=>by cases h))),if_pos hx]
   exact rtC
  ·rename_i hx2
   have hx:¬ ¬ x2=0:=by simpa using hx2
   obtain rfl:some ⟨y,(i:Int),86400*x1+cs+mx⟩=res:=by rw[<- hres,if_neg (fun h=>h.elim (fun h=>absurd h (of_decide_eq_false (by assumption))) (fun h=>h.elim (fun h=>absurd h (of_decide_eq_false (by assumption))) (fun h=>by cases h))),if_neg hx,if_pos (of_decide_eq_true hc)]
   exact rtC
  ·rename_i hx2
   have hx:¬ ¬ x2=0:=by simpa using hx2
   obtain rfl:some ⟨y,(i:Int),86400*x1+cs⟩=res:=by rw[<- hres,if_neg (fun h=>h.elim (fun h=>absurd h (of_decide_eq_false (by assumption))) (fun h=>h.elim (fun h=>absurd h (of_decide_eq_false (by assumption))) (fun h=>by cases h))),if_neg hx,if_neg (of_decide_eq_false hc),Int.add_zero]
   exact rtC
end Go.Proofs.YtpipekfmecikmaaGreatDoor
namespace Go.Wk
open Go Go.RowKit
def cmpI (a b:Int):Int:=if a<b then -1 else if b<a then 1 else 0
def iEnc (i:Int):List Value:=[.int .i64 i]
def ZbC:List Int->Int
 | []=>0
 | x::l=>if x=0 then ZbC l else x
theorem ZrZ (a b:Zad):ordE a b=ZbC [cmpI a.nominal b.nominal,cmpI a.rule b.rule,cmpI a.year b.year]:=by
 unfold ordE cmpI ZbC ZbC ZbC ZbC
 repeat' split
 all_goals omega
end Go.Wk
namespace Go.Proofs.YtpipekfmecikmaaGreatDoor
open Go Go.RowKit Go.Wk
attribute [local irreducible] W RL Does Zat Zaj retQ Calls Pu Stp RD Qy Ay Zak
theorem Zji (a:Int)(w:World):Does Tryz.prog 185 [.int .i64 a] w (fun v O=>v = .bool false/\O=[]):=by
 refine Zaa Tryz.func185 rfl rfl rfl rfl ?_
 repeat (first|refine walk ?_)
 exact ret_1 _ [] (.tmp rfl) .nil ⟨by simp,rfl⟩
theorem Zlx (a:Int)(w:World):Does Tryz.prog 186 [.int .i64 a] w (fun v O=>v = .bool false/\O=[]):=by
 refine Zaa Tryz.func186 rfl rfl rfl rfl ?_
 repeat (first|refine walk ?_)
 exact ret_1 _ [] (.tmp rfl) .nil ⟨by simp,rfl⟩
theorem ZjD (a b:Int)(w:World):Does Tryz.prog 123 [.int .i64 a,.int .i64 b] w (fun v O=>v = .int .i64 (cmpI a b)/\O=[]):=by
 refine Zaa Tryz.func123 rfl rfl rfl rfl ?_
 repeat' (first|(refine js ?_;(first|(refine Zab (fun w' _=>Zji a w') ?_)|(refine Zab (fun w' _=>Zji b w') ?_)))|refine walk ?_|(refine Zaf rfl (fun hc=>?_) (fun hc=>?_)))
 all_goals first|(refine ret_1 _ [] (.tmp rfl) .nil ⟨?_,rfl⟩;first|rfl|(simp only[*,Bool.true_and,Bool.false_and,Bool.true_or,Bool.false_or,Bool.not_true,Bool.not_false];done)|(simp_all [cmpI];done)|(simp_all [cmpI];omega)|(simp_all [cmpI];rw[Bool.eq_iff_iff];simp;omega))|(exfalso;simp_all [cmpI];done)|(exfalso;simp_all [cmpI];omega)|(exfalso;omega)
theorem ZsJ (a b:Int)(w:World):Does Tryz.prog 124 [.int .i64 a,.int .i64 b] w (fun v O=>v = .int .i64 (cmpI a b)/\O=[]):=by
 refine Zaa Tryz.func124 rfl rfl rfl rfl ?_
 repeat' (first|(refine js ?_;(first|(refine Zab (fun w' _=>Zlx a w') ?_)|(refine Zab (fun w' _=>Zlx b w') ?_)))|refine walk ?_|(refine Zaf rfl (fun hc=>?_) (fun hc=>?_)))
 all_goals first|(refine ret_1 _ [] (.tmp rfl) .nil ⟨?_,rfl⟩;first|rfl|(simp only[*,Bool.true_and,Bool.false_and,Bool.true_or,Bool.false_or,Bool.not_true,Bool.not_false];done)|(simp_all [cmpI];done)|(simp_all [cmpI];omega)|(simp_all [cmpI];rw[Bool.eq_iff_iff];simp;omega))|(exfalso;simp_all [cmpI];done)|(exfalso;simp_all [cmpI];omega)|(exfalso;omega)
theorem Zx9 (A:Option Addr)(c:Nat)(l:List Int)(w:World)(hA:RdSl w A c iEnc 1 l):Does Tryz.prog 122 [.slice A l.length c] w (fun v O=>v = .int .i64 (ZbC l)/\O=[]):=by
 have hle:=hA.le
 have hcp:=hA.cap
 unfold maxLen at hcp
 obtain⟨res,hres⟩:∃ res,ZbC l=res:=⟨_,rfl⟩
 rw[hres]
 refine Zaa Tryz.func122 rfl rfl rfl rfl ?_
 repeat (first|refine walk ?_)
 refine Zai [(6,_),(7,_),(3,_)] [] (fun k:Nat=>[(8,.int .i64 k)]) (fun _=>[]) (fun k=>k<=l.length/\ZbC (l.drop k)=res) (fun k=>l.length - k) 0 SFA SOA ⟨Nat.zero_le _,hres⟩ ?_
 rintro k ⟨hk,hi⟩
 repeat (first|refine walk ?_)
 refine Zaf rfl (fun h=>?_) (fun h=>?_)
 ·have hlt:k<l.length:=by simpa using h
  obtain⟨hna,hca⟩:=hA.rd k _ (List.getElem?_eq_getElem hlt)
  rw[Zag hlt,ZbC]at hi
  generalize l[k]=r at *
  repeat (first|(apply RL_pu;rfl;exact PuI)|refine walk1 ?_)
  refine Zaf rfl (fun h2=>?_) (fun h2=>?_)
  ·rw[if_neg (by simpa using h2)]at hi
   repeat (first|refine walk ?_)
   exact ret_1 _ [] (.tmp rfl) .nil ⟨by rw[<- hi],rfl⟩
  ·rw[if_pos (by simpa using h2)]at hi
   repeat (first|refine walk ?_)
   exact⟨k+1,OA,⟨OA,hi⟩,SFA,.nil⟩
 ·have hkl:k=l.length:=by
   have:=of_decide_eq_false h
   omega
  subst hkl
  rw[List.drop_length]at hi
  repeat (first|refine walk ?_)
  exact ret_1 _ [] (.tmp rfl) .nil ⟨by rw[<- hi];rfl,rfl⟩
theorem ZnW {α:Type}{enc:α->List Value}{sz c:Nat}{ad:Addr}{l:List α}{w:World}(hsz:∀ x,(enc x).length=sz)(h1:l.length<=c)(h2:c<=maxLen)(h:Zau w ad (l.flatMap enc)):RdSl w (some ad) c enc sz l :=
 ⟨h1,h2,fun k x hk=>⟨by simp,fun j v hj=>by
  rw[Zbo]
  exact h _ v (Zao hsz l k x j v hk hj)⟩⟩
theorem Zjg (a b:Zad)(w:World):Does Tryz.prog 84 [.agg (Zad.enc a).toArray,.agg (Zad.enc b).toArray] w (fun v O=>v = .int .i64 (ordE a b)/\O=[]):=by
 rw[ZrZ]
 obtain⟨y,r,n⟩:=a
 obtain⟨y2,r2,n2⟩:=b
 dsimp only
 have h1:=ZjD n n2
 have h2:=ZsJ r r2
 have h3:=ZjD y y2
 generalize cmpI n n2=x1 at *
 generalize cmpI r r2=x2 at *
 generalize cmpI y y2=x3 at *
 have h4:=fun(bk:Nat) w' (hc:Zau w' ⟨bk,0,none⟩ [.int .i64 x1,.int .i64 x2,.int .i64 x3])=>Zx9 (some ⟨bk,0,none⟩) 3 [x1,x2,x3] w' (ZnW (fun _=>rfl) (Nat.le_refl 3) (by decide) hc)
 show Does _ _ [.agg #[.int .i64 y,.int .i64 r,.int .i64 n],.agg #[.int .i64 y2,.int .i64 r2,.int .i64 n2]] w _
 refine Zaa Tryz.func84 rfl rfl rfl rfl ?_
 repeat (first|refine walk ?_|(refine jg ?_;(try intro F);(first|(refine Zab (fun w' _=>h1 w') ?_)|(refine Zab (fun w' _=>h2 w') ?_)|(refine Zab (fun w' _=>h3 w') ?_)|(apply Zae (h:=fun w' _ hH=>h4 _ w' (hH.cells (by repeat' constructor)));rfl;rintro v O' ⟨rfl,rfl⟩)|(refine bx ?_;intro bk));refine fin ?_)|(refine jn ?_;(try intro F);(first|(refine bx ?_;intro bk)|(apply Zac;exact PuA));refine fin ?_)|(apply RD_W;rfl;intro bk))
 exact rtA
end Go.Proofs.YtpipekfmecikmaaGreatDoor
namespace Go.Wk
open Go Go.RowKit
section
variable {P:Program}{n:Nat}{wr:World}{fr:Fr}{O:List It}{ty:TypeId}
theorem ZyZ {x y z:Operand}{ts:Array TypeId}{k:IntKind}{i j l q:Int}(hx:ev fr x=some (.int k i))(hy:ev fr y=some (.int k j))(hz:ev fr z=some (.int k l))(hq:max (max i j) l=q):Pu P n wr fr O (.call ⟨.builtin .max,#[x,y,z],ts⟩) ty (.int k q):=by
 have h1:(if i<j then j else i)=max i j:=by split <;> omega
 have h2:(if max i j<l then l else max i j)=q:=by rw[<- hq];split <;> omega
 exact fun a w hs _ _ _ _=>by
  simp only[execOp,resolve,invoke,builtin,Builtin.max_,Builtin.max2,hs.sim.ev hx,hs.sim.ev hy,hs.sim.ev hz]
  simp[execOp,resolve,invoke,builtin,Builtin.max_,Builtin.max2,hs.sim.ev hx,hs.sim.ev hy,hs.sim.ev hz,h1,h2]
end
end Go.Wk
namespace Go.Proofs.YtpipekfmecikmaaGreatDoor
open Go Go.RowKit Go.Wk
attribute [local irreducible] W RL Does Zat Zaj retQ Calls Pu Stp RD Qy Ay Zak
theorem Zur {G:Prop}(h:G:=by(first|exact PuI|(apply Pu_loadO1;rfl;first|exact c1 0 _ rfl|exact c2 0 _ rfl|exact c3 0 _ rfl|exact hcell)|(apply ZyZ;rfl;rfl;rfl;exact hy0))):G:=h
theorem ZwL {G:Prop}(h:G:=by first|(apply Qy_y;rfl;exact Zur)|exact QyA):G:=h
theorem Zz6 {G:Prop}(h:G:=by repeat (first|exact QF.nil|(apply QF.mk;rfl;rfl;decide +kernel;exact ZwL))):G:=h
theorem ZpZ {G:Prop}(h:G:=by(apply Pu_loadO1;rfl;first|exact c1 0 _ rfl|exact c2 0 _ rfl|exact c3 0 _ rfl)):G:=h
theorem Zn6 (A:Option Addr)(c:Nat)(l:List DRule)(i:Nat)(r:DRule)(yr nominal:Int)(b1 b2 b3:Nat)(w:World)(hG:Glob w)(hA:RdSl w A c DRule.enc 11 l)(hi:l[i]?=some r)(hn:l.length<=1000000)(hR:∀ r∈l,-4611686018427387904<=r.save/\r.save<=4611686018427387904)
  (hy : -2000000000<=yr/\yr<=2000000000) (hf:r.from_<=4611686018427387904) (c1:Zau w ⟨b1,0,none⟩ [.slice A l.length c]) (c2:Zau w ⟨b2,0,none⟩ [.int .i64 yr]) (c3:Zau w ⟨b3,0,none⟩ [.int .i64 nominal]) :
  Does Tryz.prog 220 [.int .i64 i,.pointer (some ⟨b1,0,none⟩),.pointer (some ⟨b2,0,none⟩),.pointer (some ⟨b3,0,none⟩)] w (fun v O=>v = .tuple #[evV (evIn (Zah l) nominal r i (max (max r.from_ (-2000000000)) (yr - 2)) 20),.bool (evIn (Zah l) nominal r i (max (max r.from_ (-2000000000)) (yr - 2)) 20).isSome]/\O=[]):=by
 have hlt:i<l.length:=(List.getElem?_eq_some_iff.1 hi).1
 obtain⟨y0,hy0⟩:∃ y0,max (max r.from_ (-2000000000)) (yr - 2)=y0:=⟨_,rfl⟩
 have hyb : -3000000000<=y0/\y0<=4611686018427387904:=by omega
 rw[hy0]
 obtain⟨res,hres⟩:∃ res,evIn (Zah l) nominal r i y0 20=res:=⟨_,rfl⟩
 rw[hres]
 have hon:=fun y w' (hw:Bel w.heap.size w w')=>Zif A c l i y r w' (hG.up hw) (hA.up hw) hi hn hR
 obtain⟨hna,hca⟩:=hA.rd i _ hi
 generalize Zah l=least at *
 have hfr:((DRule.enc r)[1]?)=some (.int .i64 r.from_):=rfl
 have hcell:w.cell? (((adr A).add (i*11)).add 1)=some (.int .i64 r.from_):=hca 1 _ hfr
 refine Zaa Tryz.func220 rfl rfl rfl rfl ?_
 repeat (first|(apply RL_pu;rfl;exact Zur)|(apply RD_Q;rfl;rfl;decide +kernel;rfl;rfl;exact ZwL)|refine walk1 ?_|(refine jn ?_;(try intro F);(first|(refine bx ?_;intro bk)|(refine stA ?_)|(apply Zac;first|exact Zur|exact PuA));first|refine⟨_,EndsA,Zz6,?_⟩|refine fin ?_)|(apply RD_W;rfl;intro bk))
 refine Zai [(0,.int .i64 i),(1,.pointer (some ⟨b1,0,none⟩)),(2,.pointer (some ⟨b2,0,none⟩)),(3,.pointer (some ⟨b3,0,none⟩)),(7,.int .i64 y0),(5,.pointer (some ⟨bk,0,none⟩))] [.blk bk [.int .i64 0,.int .i64 0,.int .i64 0] 91] (fun j:Nat=>[(19,.int .i64 j)]) (fun _=>[]) (fun j=>j<=20/\evIn least nominal r i (y0+j) (20 - j)=res) (fun j=>20 - j) 0 SFA SOA ⟨Nat.zero_le _,by simpa using hres⟩ ?_
 rintro j ⟨hj,hi2⟩
 repeat (first|refine walk ?_|(refine jn ?_;(try intro F);(first|(refine bx ?_;intro bk)|(refine stA ?_)|(apply Zac;exact PuA));refine fin ?_)|(apply RD_W;rfl;intro bk))
 refine Zaf rfl (fun h=>?_) (fun h=>?_)
 ·have hj20:j<20:=by have:=of_decide_eq_true h;omega
  rw[show 20 - j=(19 - j)+1 by omega,evIn]at hi2
  have ho:=hon (y0+j)
  generalize onR least r i (y0+j)=o at *
  cases o with
  | none =>
   simp only[evV,Zad.enc,dEv0,Option.isSome]at ho
   repeat (first|(apply RL_pu;rfl;exact ZpZ)|(apply RD_Q;rfl;rfl;decide +kernel;rfl;rfl;exact QyEvA1)|refine walk1 ?_|(refine jg ?_;(try intro F);(first|(refine Zab ho ?_)|(refine bx ?_;intro bk)|(refine stA ?_));first|refine⟨_,EndsA,QFEvA1,?_⟩|refine fin ?_)|(refine jn ?_;(try intro F);(first|(refine bx ?_;intro bk)|(refine stA ?_)|(apply Zac;first|exact ZpZ|exact PuA));first|refine⟨_,EndsA,QFEvA1,?_⟩|refine fin ?_)|(apply RD_W;rfl;intro bk))
   exact⟨j+1,OA,⟨OA,by rw[show 20 - (j+1)=19 - j by omega,show y0+((j+1:Nat):Int)=y0+j+1 by omega];exact hi2⟩,SFA,SOA⟩
  | some e =>
   obtain⟨ey,er,en⟩:=e
   simp only[evV,Zad.enc,Option.isSome]at ho hi2
   repeat (first|(apply RL_pu;rfl;exact ZpZ)|(apply RD_Q;rfl;rfl;decide +kernel;rfl;rfl;exact QyEvA1)|refine walk1 ?_|(refine jg ?_;(try intro F);(first|(refine Zab ho ?_)|(refine bx ?_;intro bk)|(refine stA ?_));first|refine⟨_,EndsA,QFEvA1,?_⟩|refine fin ?_)|(refine jn ?_;(try intro F);(first|(refine bx ?_;intro bk)|(refine stA ?_)|(apply Zac;first|exact ZpZ|exact PuA));first|refine⟨_,EndsA,QFEvA1,?_⟩|refine fin ?_)|(apply RD_W;rfl;intro bk))
   refine Zaf rfl (fun h2=>?_) (fun h2=>?_)
   ·rw[if_pos (of_decide_eq_true h2)]at hi2
    subst hi2
    repeat (first|refine walk ?_|(refine jn ?_;(try intro F);(first|(refine bx ?_;intro bk)|(refine stA ?_)|(apply Zac;exact PuA));refine fin ?_)|(apply RD_W;rfl;intro bk))
    exact rtC
   ·rw[if_neg (of_decide_eq_false h2)]at hi2
    repeat (first|refine walk ?_|(refine jn ?_;(try intro F);(first|(refine bx ?_;intro bk)|(refine stA ?_)|(apply Zac;exact PuA));refine fin ?_)|(apply RD_W;rfl;intro bk))
    exact⟨j+1,OA,⟨OA,by rw[show 20 - (j+1)=19 - j by omega,show y0+((j+1:Nat):Int)=y0+j+1 by omega];exact hi2⟩,SFA,SOA⟩
 ·obtain rfl:j=20:=by have:=of_decide_eq_false h;omega
  obtain rfl:none=res:=by rw[<- hi2];rfl
  repeat (first|refine walk ?_|(refine jn ?_;(try intro F);(first|(refine bx ?_;intro bk)|(refine stA ?_)|(apply Zac;exact PuA));refine fin ?_)|(apply RD_W;rfl;intro bk))
  exact rtC
def evC:Option Zad->List Value
 | some e=>Zad.enc e
 | none=>Zad.enc dEv0
structure BG where
 k:Nat
 b:Option Zad
theorem ZsV (A:Option Addr)(c:Nat)(l:List DRule)(yr nominal:Int)(b1 b2 b3:Nat)(w:World)(hG:Glob w)(hA:RdSl w A c DRule.enc 11 l)(hn:l.length<=1000000)(hR:∀ r∈l,(-4611686018427387904<=r.save/\r.save<=4611686018427387904)/\r.from_<=4611686018427387904)
  (hy : -2000000000<=yr/\yr<=2000000000) (c1:Zau w ⟨b1,0,none⟩ [.slice A l.length c]) (c2:Zau w ⟨b2,0,none⟩ [.int .i64 yr]) (c3:Zau w ⟨b3,0,none⟩ [.int .i64 nominal]) :
  Does Tryz.prog 79 [.slice A l.length c,.func (.func 220) #[] #[.pointer (some ⟨b1,0,none⟩),.pointer (some ⟨b2,0,none⟩),.pointer (some ⟨b3,0,none⟩)],.func (.func 84) #[] #[]] w
   (fun v O=>v = .tuple #[evV (Zbs (Zah l) nominal yr l 0 none),.bool (Zbs (Zah l) nominal yr l 0 none).isSome]/\O=[]):=by
 have haf:=fun(i:Nat) r (hi:l[i]?=some r) w' (hw:Bel w.heap.size w w')=>Zn6 A c l i r yr nominal b1 b2 b3 w' (hG.up hw) (hA.up hw) hi hn (fun r hr=>(hR r hr).1) hy (hR r (List.mem_of_getElem? hi)).2 (c1.up hw (Nat.le_refl _)) (c2.up hw (Nat.le_refl _)) (c3.up hw (Nat.le_refl _))
 obtain⟨res,hres⟩:∃ res,Zbs (Zah l) nominal yr l 0 none=res:=⟨_,rfl⟩
 rw[hres]
 generalize Zah l=least at *
 clear hA hR c1 c2 c3
 refine Zaa Tryz.func79 rfl rfl rfl rfl ?_
 repeat (first|(refine js ?_;(refine bx ?_;intro bk))|refine walk ?_)
 rename_i b6
 refine Zai [(13,.slice A l.length c),(1,.func (.func 220) #[] #[.pointer (some ⟨b1,0,none⟩),.pointer (some ⟨b2,0,none⟩),.pointer (some ⟨b3,0,none⟩)]),(2,.func (.func 84) #[] #[]),(8,.pointer (some ⟨bk,0,none⟩)),(6,.pointer (some ⟨b6,0,none⟩)),(14,.int .i64 l.length)] [.blk b6 [.int .i64 0,.int .i64 0,.int .i64 0] 91]
  (fun g:BG=>[(15,.int .i64 g.k),(9,.bool g.b.isSome)]) (fun g=>[.blk bk (evC g.b) 91]) (fun g=>g.k<=l.length/\Zbs least nominal yr (l.drop g.k) g.k g.b=res) (fun g=>l.length - g.k) ⟨0,none⟩ SFA SOA ⟨Nat.zero_le _,hres⟩ ?_
 rintro⟨k,b⟩ ⟨hk,hi⟩
 dsimp only at hk hi ⊢
 repeat (first|(refine js ?_;(refine bx ?_;intro bk))|refine walk ?_)
 refine Zaf rfl (fun h=>?_) (fun h=>?_)
 ·have hlt:k<l.length:=by simpa using h
  have ho:=haf k _ (List.getElem?_eq_getElem hlt)
  rw[Zag hlt,Zbs]at hi
  generalize evIn least nominal l[k] k (max (max l[k].from_ (-2000000000)) (yr - 2)) 20=o at *
  have hord:=fun e e2 w'=>Zjg e e2 w'
  rcases o with _|⟨ey,er,en⟩ <;> rcases b with _|⟨by_,br,bn⟩ <;> simp only[evV,evC,Zad.enc,dEv0,Option.isSome]at ho hi ⊢
  ·repeat (first|refine und ?_|(refine js ?_;(first|(apply Zay (f:=220) (us:=[]) (vs:=[.int .i64 k]) (cs:=[.pointer (some ⟨b1,0,none⟩),.pointer (some ⟨b2,0,none⟩),.pointer (some ⟨b3,0,none⟩)]) (h:=fun w' hw _=>ho w' hw);rfl;rfl;rintro v O' ⟨rfl,rfl⟩)|(refine bx ?_;intro bk)))|refine walk ?_)
   exact⟨⟨k+1,none⟩,OA,⟨OA,hi⟩,SFA,SOA⟩
  ·repeat (first|refine und ?_|(refine js ?_;(first|(apply Zay (f:=220) (us:=[]) (vs:=[.int .i64 k]) (cs:=[.pointer (some ⟨b1,0,none⟩),.pointer (some ⟨b2,0,none⟩),.pointer (some ⟨b3,0,none⟩)]) (h:=fun w' hw _=>ho w' hw);rfl;rfl;rintro v O' ⟨rfl,rfl⟩)|(refine bx ?_;intro bk)))|refine walk ?_)
   exact⟨⟨k+1,some ⟨by_,br,bn⟩⟩,OA,⟨OA,hi⟩,SFA,SOA⟩
  ·repeat (first|refine und ?_|(refine js ?_;(first|(apply Zay (f:=220) (us:=[]) (vs:=[.int .i64 k]) (cs:=[.pointer (some ⟨b1,0,none⟩),.pointer (some ⟨b2,0,none⟩),.pointer (some ⟨b3,0,none⟩)]) (h:=fun w' hw _=>ho w' hw);rfl;rfl;rintro v O' ⟨rfl,rfl⟩)|(refine bx ?_;intro bk)))|refine walk ?_)
   exact⟨⟨k+1,some ⟨ey,er,en⟩⟩,OA,⟨OA,hi⟩,SFA,SOA⟩
  ·repeat (first|refine und ?_|(refine js ?_;(first|(apply Zay (f:=220) (us:=[]) (vs:=[.int .i64 k]) (cs:=[.pointer (some ⟨b1,0,none⟩),.pointer (some ⟨b2,0,none⟩),.pointer (some ⟨b3,0,none⟩)]) (h:=fun w' hw _=>ho w' hw);rfl;rfl;rintro v O' ⟨rfl,rfl⟩)|(apply Zay (f:=84) (us:=[]) (cs:=[]) (vs:=[.agg #[.int .i64 ey,.int .i64 er,.int .i64 en],.agg #[.int .i64 by_,.int .i64 br,.int .i64 bn]]) (h:=fun w' hw _=>hord ⟨ey,er,en⟩ ⟨by_,br,bn⟩ w');rfl;rfl;rintro v O' ⟨rfl,rfl⟩)|(refine bx ?_;intro bk)))|refine walk ?_)
   refine Zaf rfl (fun h2=>?_) (fun h2=>?_)
   ·rw[if_pos (of_decide_eq_true h2)]at hi
    repeat (first|(refine js ?_;(refine bx ?_;intro bk))|refine walk ?_)
    exact⟨⟨k+1,some ⟨ey,er,en⟩⟩,OA,⟨OA,hi⟩,SFA,SOA⟩
   ·rw[if_neg (of_decide_eq_false h2)]at hi
    repeat (first|(refine js ?_;(refine bx ?_;intro bk))|refine walk ?_)
    exact⟨⟨k+1,some ⟨by_,br,bn⟩⟩,OA,⟨OA,hi⟩,SFA,SOA⟩
 ·obtain rfl:k=l.length:=by have:=of_decide_eq_false h;omega
  rw[List.drop_length,Zbs]at hi
  subst hi
  rcases b with _|⟨by_,br,bn⟩ <;> simp only[evC,Zad.enc,dEv0]
  ·repeat (first|(refine js ?_;(refine bx ?_;intro bk))|refine walk ?_)
   exact rtC
  ·repeat (first|(refine js ?_;(refine bx ?_;intro bk))|refine walk ?_)
   exact rtC
theorem Zfm (t:Int) : -2000000000<=ZaC t/\ZaC t<=2000000000:=by unfold ZaC;omega
def RsOk (l:List DRule):Prop:=∀ r∈l,(-4611686018427387904<=r.save/\r.save<=4611686018427387904)/\r.from_<=4611686018427387904
theorem Zq4 (A:Option Addr)(c:Nat)(l:List DRule)(nominal:Int)(w:World)(hG:Glob w)(hA:RdSl w A c DRule.enc 11 l)(hn:l.length<=1000000)(hR:RsOk l)(ht : -4611686018427387904<=nominal/\nominal<=4611686018427387904) :
  Does Tryz.prog 167 [.slice A l.length c,.int .i64 nominal] w (fun v O=>v = .tuple #[evV (Zeu l nominal),.bool (Zeu l nominal).isSome]/\O=[]):=by
 have hb:=fun(b1 b2 b3:Nat) w' (hw:Bel w.heap.size w w') c1 c2 c3=>ZsV A c l (ZaC nominal) nominal b1 b2 b3 w' (hG.up hw) (hA.up hw) hn hR (Zfm nominal) c1 c2 c3
 change ∀ (b1 b2 b3:Nat) w' (hw:Bel w.heap.size w w') c1 c2 c3,Does _ _ _ w' (fun v O=>v = .tuple #[evV (Zeu l nominal),.bool (Zeu l nominal).isSome]/\O=[]) at hb
 have hyr:=fun w' (hw:Bel w.heap.size w w')=>ZkY nominal ht w' (hG.up hw)
 generalize Zeu l nominal=res at *
 generalize ZaC nominal=yr at *
 refine Zaa Tryz.func167 rfl rfl rfl rfl ?_
 rcases res with _|⟨ey,er,en⟩ <;> simp only[evV,Zad.enc,dEv0,Option.isSome]at hb ⊢
 ·repeat (first|(refine js ?_;(first|(refine Zab hyr ?_)|(apply Zae (h:=fun w' hw hH=>hb _ _ _ w' hw (hH.cells (by repeat' constructor)) (hH.cells (by repeat' constructor)) (hH.cells (by repeat' constructor)));rfl;rintro v O' ⟨rfl,rfl⟩)|(refine bx ?_;intro bk)))|refine walk ?_)
  exact rtC
 ·repeat (first|(refine js ?_;(first|(refine Zab hyr ?_)|(apply Zae (h:=fun w' hw hH=>hb _ _ _ w' hw (hH.cells (by repeat' constructor)) (hH.cells (by repeat' constructor)) (hH.cells (by repeat' constructor)));rfl;rintro v O' ⟨rfl,rfl⟩)|(refine bx ?_;intro bk)))|refine walk ?_)
  exact rtC
def EvOk (o:Option Zad):Prop:=∀ e,o=some e -> -200000000000000000<=e.nominal/\e.nominal<=200000000000000000
theorem Zr1 (least:Int)(hl:least<=0)(r:DRule)(i y:Int):EvOk (onR least r i y):=by
 intro e he
 unfold onR at he
 split at he
 ·cases he
 ·rename_i h1
  split at he
  ·cases he
  ·have hb:=Zgz y r.month r.day
   have hc:ZaH r.at_=true:=by
    cases hc:ZaH r.at_
    ·exact absurd (.inr (.inr hc)) h1
    ·rfl
   simp only[ZaH,Bool.and_eq_true,decide_eq_true_eq]at hc
   simp only[Option.some.injEq]at he
   subst he
   dsimp only
   split <;> omega
theorem ZnQ (least nominal:Int)(hl:least<=0)(r:DRule)(i:Int):∀ (k:Nat) (y:Int),EvOk (evIn least nominal r i y k)
 | 0,_=>fun e he=>by cases he
 | k+1,y=>by
  rw[evIn]
  have h:=Zr1 least hl r i y
  split
  ·rename_i e he
   split
   ·intro e2 h2;cases h2;exact h e he
   ·exact ZnQ least nominal hl r i k (y+1)
  ·exact ZnQ least nominal hl r i k (y+1)
theorem ZjO (least nominal yr:Int)(hl:least<=0):∀ (l:List DRule) (i:Nat) (b:Option Zad),EvOk b->EvOk (Zbs least nominal yr l i b)
 | [],_,_,h=>h
 | r::l,i,b,h=>by
  rw[Zbs]
  refine ZjO least nominal yr hl l (i+1) _ ?_
  have he:=ZnQ least nominal hl r i 20 (max (max r.from_ (-2000000000)) (yr - 2))
  generalize evIn least nominal r i (max (max r.from_ (-2000000000)) (yr - 2)) 20=o at *
  cases o with
  | none=>exact h
  | some e =>
   cases b with
   | none=>exact he
   | some x =>
    dsimp only
    split
    ·exact he
    ·exact h
theorem ZxW {G:Prop}(h:G:=by(first|(apply Zgp;rfl;rfl;exact h1)|(apply Zfj;rfl;rfl;exact h2))):G:=h
theorem Zvw (A:Option Addr)(c:Nat)(l:List DRule)(nominal:Int)(w:World)(hG:Glob w)(hA:RdSl w A c DRule.enc 11 l)(hn:l.length<=1000000)(hR:RsOk l)(ht : -1000000000000000000<=nominal/\nominal<=1000000000000000000) :
  Does Tryz.prog 242 [.slice A l.length c,.int .i64 nominal] w (fun v O=>v = .bool (farD l nominal)/\O=[]):=by
 have haf:=fun w' (hw:Bel w.heap.size w w')=>Zq4 A c l (nominal - 259200) w' (hG.up hw) (hA.up hw) hn hR (by omega)
 have hbd:EvOk (Zeu l (nominal - 259200)):=ZjO _ _ _ (ZhT l fun r hr=>(hR r hr).1).2 l 0 none (fun e he=>by cases he)
 unfold farD
 generalize Zeu l (nominal - 259200)=res at *
 have h1:(if 1152921504606846976<nominal then (1152921504606846976:Int) else nominal)=nominal:=if_neg (by omega)
 have h2:(if (-1152921504606846976:Int)<nominal then nominal else -1152921504606846976)=nominal:=if_pos (by omega)
 refine Zaa Tryz.func242 rfl rfl rfl rfl ?_
 rcases res with _|⟨ey,er,en⟩ <;> simp only[evV,Zad.enc,dEv0,Option.isSome]at haf ⊢
 ·repeat' (first|(apply RL_pu;rfl;exact ZxW)|(refine js ?_;(first|(refine Zab haf ?_)|(refine bx ?_;intro bk)))|refine walk1 ?_|refine und ?_|(refine Zam rfl rfl rfl (fun hc=>?_) (fun hc=>?_))|(refine Zas rfl rfl rfl (fun hc=>?_) (fun hc=>?_))|(refine Zaf rfl (fun hc=>?_) (fun hc=>?_)))
  exact rtA
 ·have hb:=hbd _ rfl
  dsimp only at hb
  repeat' (first|(apply RL_pu;rfl;exact ZxW)|(refine js ?_;(first|(refine Zab haf ?_)|(refine bx ?_;intro bk)))|refine walk1 ?_|refine und ?_|(refine Zam rfl rfl rfl (fun hc=>?_) (fun hc=>?_))|(refine Zas rfl rfl rfl (fun hc=>?_) (fun hc=>?_))|(refine Zaf rfl (fun hc=>?_) (fun hc=>?_)))
  exact rtA
theorem Zus {G:Prop}(h:G:=by(first|exact PuI|(apply Pu_loadO1;rfl;first|exact c1 0 _ rfl|exact c2 0 _ rfl|exact c3 0 _ rfl)|(apply Zgp;rfl;rfl;exact hmn))):G:=h
theorem ZwM {G:Prop}(h:G:=by first|(apply Qy_y;rfl;exact Zus)|exact QyA):G:=h
theorem Zw1 {G:Prop}(h:G:=by repeat (first|exact QF.nil|(apply QF.mk;rfl;rfl;decide +kernel;exact ZwM))):G:=h
theorem Zp2 {G:Prop}(h:G:=by(apply Pu_loadO1;rfl;first|exact c1 0 _ rfl|exact c2 0 _ rfl|exact c3 0 _ rfl)):G:=h
theorem Zmh (A:Option Addr)(c:Nat)(l:List DRule)(i:Nat)(r:DRule)(yr nominal:Int)(b1 b2 b3:Nat)(w:World)(hG:Glob w)(hA:RdSl w A c DRule.enc 11 l)(hi:l[i]?=some r)(hn:l.length<=1000000)(hR:∀ r∈l,-4611686018427387904<=r.save/\r.save<=4611686018427387904)
  (hy : -2000000000<=yr/\yr<=2000000000) (hf : -4611686018427387904<=r.to) (c1:Zau w ⟨b1,0,none⟩ [.slice A l.length c]) (c2:Zau w ⟨b2,0,none⟩ [.int .i64 yr]) (c3:Zau w ⟨b3,0,none⟩ [.int .i64 nominal]) :
  Does Tryz.prog 80 [.int .i64 i,.pointer (some ⟨b1,0,none⟩),.pointer (some ⟨b2,0,none⟩),.pointer (some ⟨b3,0,none⟩)] w (fun v O=>v = .tuple #[evV (beIn (Zah l) nominal r i (min (lastY r) (yr+2)) 20),.bool (beIn (Zah l) nominal r i (min (lastY r) (yr+2)) 20).isSome]/\O=[]):=by
 have hlt:i<l.length:=(List.getElem?_eq_some_iff.1 hi).1
 obtain⟨y0,hy0⟩:∃ y0,min (lastY r) (yr+2)=y0:=⟨_,rfl⟩
 have hlb : -4611686018427387904<=lastY r/\lastY r<=2000000000:=by
  unfold lastY
  split <;> omega
 have hyb : -4611686018427387904<=y0/\y0<=2000000002:=by omega
 have hmn:(if yr+2<lastY r then yr+2 else lastY r)=y0:=by rw[<- hy0];split <;> omega
 have hla:=fun w'=>Zjm r w'
 rw[hy0]
 obtain⟨res,hres⟩:∃ res,beIn (Zah l) nominal r i y0 20=res:=⟨_,rfl⟩
 rw[hres]
 have hon:=fun y w' (hw:Bel w.heap.size w w')=>Zif A c l i y r w' (hG.up hw) (hA.up hw) hi hn hR
 obtain⟨hna,hca⟩:=hA.rd i _ hi
 generalize Zah l=least at *
 generalize lastY r=ly at *
 clear hy0
 obtain⟨nm,fr,to,mo,⟨dk,dw,dd⟩,⟨cs,cb⟩,sv,le⟩:=r
 change Zau w _ [.string nm,.int .i64 fr,.int .i64 to,.int .i64 mo,.int .i64 dk,.int .i64 dw,.int .i64 dd,.int .i64 cs,.int .i64 cb,.int .i64 sv,.string le]at hca
 refine Zaa Tryz.func80 rfl rfl rfl rfl ?_
 repeat (first|(apply RL_pu;rfl;exact Zus)|(apply RD_Q;rfl;rfl;decide +kernel;rfl;rfl;exact ZwM)|refine walk1 ?_|(refine jg ?_;(try intro F);(first|(refine Zab (fun w' _=>hla w') ?_)|(refine bx ?_;intro bk)|(refine stA ?_));first|refine⟨_,EndsA,Zw1,?_⟩|refine fin ?_)|(refine jn ?_;(try intro F);(first|(refine bx ?_;intro bk)|(refine stA ?_)|(apply Zac;first|exact Zus|exact PuA));first|refine⟨_,EndsA,Zw1,?_⟩|refine fin ?_)|(apply RD_W;rfl;intro bk))
 refine Zai [(0,.int .i64 i),(1,.pointer (some ⟨b1,0,none⟩)),(2,.pointer (some ⟨b2,0,none⟩)),(3,.pointer (some ⟨b3,0,none⟩)),(7,.int .i64 y0),(5,.pointer (some ⟨bk,0,none⟩))] [.blk bk [.int .i64 0,.int .i64 0,.int .i64 0] 91] (fun j:Nat=>[(19,.int .i64 j)]) (fun _=>[]) (fun j=>j<=20/\beIn least nominal ⟨nm,fr,to,mo,⟨dk,dw,dd⟩,⟨cs,cb⟩,sv,le⟩ i (y0 - j) (20 - j)=res) (fun j=>20 - j) 0 SFA SOA ⟨Nat.zero_le _,by simpa using hres⟩ ?_
 rintro j ⟨hj,hi2⟩
 repeat (first|refine walk ?_|(refine jn ?_;(try intro F);(first|(refine bx ?_;intro bk)|(refine stA ?_)|(apply Zac;exact PuA));refine fin ?_)|(apply RD_W;rfl;intro bk))
 refine Zaf rfl (fun h=>?_) (fun h=>?_)
 ·have hj20:j<20:=by have:=of_decide_eq_true h;omega
  rw[show 20 - j=(19 - j)+1 by omega,beIn]at hi2
  have ho:=hon (y0 - j)
  generalize onR least _ i (y0 - j)=o at *
  cases o with
  | none =>
   simp only[evV,Zad.enc,dEv0,Option.isSome]at ho
   repeat (first|(apply RL_pu;rfl;exact Zp2)|(apply RD_Q;rfl;rfl;decide +kernel;rfl;rfl;exact QyBfA1)|refine walk1 ?_|(refine jg ?_;(try intro F);(first|(refine Zab ho ?_)|(refine bx ?_;intro bk)|(refine stA ?_));first|refine⟨_,EndsA,QFBfA1,?_⟩|refine fin ?_)|(refine jn ?_;(try intro F);(first|(refine bx ?_;intro bk)|(refine stA ?_)|(apply Zac;first|exact Zp2|exact PuA));first|refine⟨_,EndsA,QFBfA1,?_⟩|refine fin ?_)|(apply RD_W;rfl;intro bk))
   exact⟨j+1,OA,⟨OA,by rw[show 20 - (j+1)=19 - j by omega,show y0 - ((j+1:Nat):Int)=y0 - j - 1 by omega];exact hi2⟩,SFA,SOA⟩
  | some e =>
   obtain⟨ey,er,en⟩:=e
   simp only[evV,Zad.enc,Option.isSome]at ho hi2
   repeat (first|(apply RL_pu;rfl;exact Zp2)|(apply RD_Q;rfl;rfl;decide +kernel;rfl;rfl;exact QyBfA1)|refine walk1 ?_|(refine jg ?_;(try intro F);(first|(refine Zab ho ?_)|(refine bx ?_;intro bk)|(refine stA ?_));first|refine⟨_,EndsA,QFBfA1,?_⟩|refine fin ?_)|(refine jn ?_;(try intro F);(first|(refine bx ?_;intro bk)|(refine stA ?_)|(apply Zac;first|exact Zp2|exact PuA));first|refine⟨_,EndsA,QFBfA1,?_⟩|refine fin ?_)|(apply RD_W;rfl;intro bk))
   refine Zaf rfl (fun h2=>?_) (fun h2=>?_)
   ·rw[if_pos (of_decide_eq_true h2)]at hi2
    subst hi2
    repeat (first|refine walk ?_|(refine jn ?_;(try intro F);(first|(refine bx ?_;intro bk)|(refine stA ?_)|(apply Zac;exact PuA));refine fin ?_)|(apply RD_W;rfl;intro bk))
    exact rtC
   ·rw[if_neg (of_decide_eq_false h2)]at hi2
    repeat (first|refine walk ?_|(refine jn ?_;(try intro F);(first|(refine bx ?_;intro bk)|(refine stA ?_)|(apply Zac;exact PuA));refine fin ?_)|(apply RD_W;rfl;intro bk))
    exact⟨j+1,OA,⟨OA,by rw[show 20 - (j+1)=19 - j by omega,show y0 - ((j+1:Nat):Int)=y0 - j - 1 by omega];exact hi2⟩,SFA,SOA⟩
 ·obtain rfl:j=20:=by have:=of_decide_eq_false h;omega
  obtain rfl:none=res:=by rw[<- hi2];rfl
  repeat (first|refine walk ?_|(refine jn ?_;(try intro F);(first|(refine bx ?_;intro bk)|(refine stA ?_)|(apply Zac;exact PuA));refine fin ?_)|(apply RD_W;rfl;intro bk))
  exact rtC
end Go.Proofs.YtpipekfmecikmaaGreatDoor
