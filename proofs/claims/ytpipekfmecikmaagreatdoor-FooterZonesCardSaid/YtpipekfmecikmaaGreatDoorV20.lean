/- Parts of the proof. -/
import Derived.Test.YtpipekfmecikmaaGreatDoorV17
import Derived.Test.YtpipekfmecikmaaGreatDoorV18
import Derived.Test.YtpipekfmecikmaaGreatDoorV05
import Derived.Test.YtpipekfmecikmaaGreatDoorV19
import Derived.Test.YtpipekfmecikmaaGreatDoorV15
import Derived.Test.YtpipekfmecikmaaGreatDoorV11
import Derived.Test.YtpipekfmecikmaaGreatDoorV06
import Derived.Test.YtpipekfmecikmaaGreatDoorV14
import Derived.Test.YtpipekfmecikmaaGreatDoorV13
set_option maxHeartbeats 4000000
set_option linter.unusedVariables false
set_option linter.unusedSimpArgs false
namespace Go.Proofs.YtpipekfmecikmaaGreatDoor
open Go Go.RowKit Go.Wk
attribute [local irreducible] W RL Does Zat Zaj retQ Calls Pu Stp RD Qy Ay Zak
def pEnc (x:Int × ByteArray):List Value:=[.int .i64 x.1,.string x.2]
def pkV (x:Int × ByteArray):Value := .agg (pEnc x).toArray
instance : EqE Tryz.prog 266 (Int × ByteArray) pEnc where
 h r s w:=by
  unfold pEnc
  simp[go_sem,Zc9]
  rcases r with⟨_,_⟩
  rcases s with⟨_,_⟩
  simp only[Zlu,Result.ok.injEq,and_true]
  rw[Bool.eq_iff_iff]
  simp
 g:=by kernel_rfl
theorem pk_asking (k : Int × ByteArray) (w : World) : ∀ (l : List ((Int × ByteArray) × Int)) (i j : Nat), (Instr.findAsking 266 (pkV k) (cent pkV j l) i).run Tryz.prog w = .ok (ZvB k l i) w
  | [], _, _ => rfl
  | x :: l, i, j => by
    have h := EqE.h (P := Tryz.prog) (t := 266) (enc := pEnc) k x.1 w
    rw [cent, Instr.findAsking, ZvB]
    simp only [pkV, Op.equal, Op.maxDepth] at h ⊢
    simp only [Sem.run_bind, h, Result.andThen_ok]
    by_cases hk : k = x.1
    · rw [decide_eq_true hk, if_pos hk]; rfl
    · rw [decide_eq_false hk, if_neg hk]
      have ih := pk_asking k w l (i + 1) (j + 1)
      simp only [pkV] at ih
      simpa using ih
theorem pk_check' (b : Bool) (k : Int × ByteArray) (d : Nat) (w : World) : (Instr.checkKey b (d + 1 + 1) 266 (.agg (pEnc k).toArray)).run Tryz.prog w = .ok () w := by
  simp [Instr.checkKey, go_sem, pEnc]
instance : KeyT Tryz.prog 266 (Int × ByteArray) pkV where
  ask k l w := by
    cases l with
    | nil => simp [Instr.findKey, go_sem, cent, Instr.findNow, ZvB]
    | cons x l =>
      have h := pk_asking k w (x :: l) 0 0
      simp only [cent] at h ⊢
      simp [Instr.findKey, go_sem, Instr.findNow, Instr.sameNow, pkV]
      exact h
  chk b k w := pk_check' b k 9998 w
  stay k w := by simp [Instr.keyThatStays, Instr.sameBits, pkV, pEnc, Zme]
def toM (l:List (ByteArray × Int)):List (ByteArray × Value):=l.map fun x=>(x.1,Value.int .i64 x.2)
theorem ZmV (k:ByteArray):∀ l:List (ByteArray × Int),(mget (toM l) k).getD (.int .i64 0) = .int .i64 (cget k l)
 | []=>rfl
 | x::l=>by
  have ih:=ZmV k l
  unfold toM at ih ⊢
  rw[List.map_cons,mget,cget]
  by_cases h:k=x.1
  ·rw[if_pos h,if_pos h];rfl
  ·rw[if_neg h,if_neg h];exact ih
theorem Zhp (k:ByteArray)(v:Int):∀ l:List (ByteArray × Int),mset (toM l) k (.int .i64 v)=toM (cput k v (cins k l))
 | []=>by simp[toM,mset,cins,cput]
 | x::l=>by
  have ih:=Zhp k v l
  unfold toM at ih ⊢
  rw[List.map_cons,mset,cins]
  by_cases h:k=x.1
  ·rw[if_pos h,if_pos h,cput,if_pos h];rfl
  ·rw[if_neg h,if_neg h,cput,if_neg h,ih];rfl
theorem Zcb {P:Program}{n:Nat}{wr:World}{fr:Fr}{O:List It}{ty:TypeId}{pos:String}{af:Array Edge}{dst:Option Tmp}{g:Option (Nat × Bool)}{Kp:Value->List It->Prop}
  {t kt et b:Nat} {x ix y:Operand} {m m':List (ByteArray × Value)} {k:ByteArray} {v:Value} {O':List It} [hM:MapT P t kt et] [StringT P kt] (hx:ev fr x=some (.map (some b))) (hi:ev fr ix=some (.string k)) (hy:ev fr y=some v) (hm:mset m k v=m')
  (hu:Upd O (.mp b m) (.mp b m') O') (kk:Kp undef O'):Stp P n wr fr O ⟨dst,.mapUpdate t x ix y,ty,pos,af,g⟩ Kp:=Stp_mapUpdate hx hi hy (hm▸hu) kk
theorem Zd6 (rs:List DRule)(e:DEra):(ZaG rs e).length<=rs.length+1:=by
 unfold ZaG
 have:=Zd7 rs e
 split
 ·simp
 ·split
  ·rw[List.length_map];omega
  ·simp
theorem Zgw {rs:List DRule}{e:DEra}(hr:∀ r∈rs,r.letter.size<=1000000000):∀ x∈ZaG rs e,x.2.size<=1000000000:=by
 intro x hx
 unfold ZaG at hx
 split at hx
 ·simp only[List.mem_singleton]at hx;subst hx;exact Nat.zero_le _
 ·split at hx
  ·obtain⟨r,h,rfl⟩:=List.mem_map.1 hx
   exact hr r (Zdb h)
  ·simp only[List.mem_singleton]at hx;subst hx;exact Nat.zero_le _
structure FwG where
 k:Nat
 lp:List ((Int × ByteArray) × Int)
 la:List (ByteArray × Int)
 sz:Int
 acc:List (Int × List UInt8) × List (List UInt8)
 t:Nat
theorem ZiK {G:Prop}(h:G:=by(first|(apply Zap;rfl;rfl;omega;omega;(intro w' _ hO;exact(ZaD (hO.of (A := .row (.slice A5 S.length c5) 155 2 S.length (S.flatMap Za4)) (by repeat' constructor)) hg1).1))|(apply ZaS;rfl;(focus repeat' constructor);exact hgn;rfl)|(apply ZvQ (kv:=pkV) (k:=(e.off+x.1,bz ab));rfl;rfl;(focus repeat' constructor);first|exact rfl|exact Zl9 _ _)|(apply Zgq;rfl;rfl;(focus repeat' constructor);first|exact ZmV _ la|exact hl2)|(apply Zan;rfl;rfl;exact hb))):G:=h
theorem Zob {G:Prop}(h:G:=by first|(apply Qy_y;rfl;exact ZiK)|exact QyA):G:=h
theorem Zts {G:Prop}(h:G:=by repeat (first|exact QF.nil|(apply QF.mk;rfl;rfl;decide +kernel;exact Zob))):G:=h
theorem ZkR {G:Prop}(h:G:=by(first|(apply Zy0 (kv:=pkV);rfl;(focus repeat' constructor))|(apply Zew;rfl;rfl;exact b1))):G:=h
set_option maxHeartbeats 2000000 in
theorem ZsZ (Ar Az Al As:Option Addr)(cr cz cl cs:Nat)(a:DSource)(z:DZone)(Ae:Option Addr)(ce:Nat)(w:World)(hL:LibW w)(hA:Zar w Ar Az Al As cr cz cl cs a)(hE:RdSl w Ae ce DEra.enc 13 z.eras)(hS:ZcK a)(hV:Zgl a)(hel:z.eras.length<=1000000)
  (hZ:∀ e∈z.eras,ZiQ e) (hH:∀ e∈z.eras,∀ x∈ZaG a.rules e,Za0 e.off x.1=true) :
  Does Tryz.prog 184 [srcV Ar Az Al As cr cz cl cs a,.agg #[.string z.name,.slice Ae z.eras.length ce]] w (fun v O=>v = .bool (Zem a.rules z)/\O=[]):=by
 have hn:=hS.nr
 unfold Zem
 obtain⟨R,hR⟩:∃ R,erGo a.rules z.eras ([],[])=R:=⟨_,rfl⟩
 rw[hR]
 refine Zaa Tryz.func184 rfl rfl rfl rfl ?_
 repeat (first|refine walk ?_|(refine jn ?_;(try intro F);(first|(apply Zs6 (t:=264) pkV;intro bk)|(refine bx ?_;intro bk)|(refine stA ?_)|(apply Zac;exact PuA));refine fin ?_)|(apply RD_W;rfl;intro bk))
 rename_i b1 b2 bp
 generalize bk=ba
 refine Zai [(2,.pointer (some ⟨b1,0,none⟩)),(5,.map (some bp)),(6,.map (some ba)),(17,.slice Ae z.eras.length ce),(18,.int .i64 z.eras.length)] [.blk b1 [.slice Ar a.rules.length cr,.slice Az a.zones.length cz,.slice Al a.links.length cl,.slice As a.shifts.length cs] 174]
  (fun g:FwG=>[(7,.int .i64 g.sz),(19,.int .i64 g.k)]) (fun g=>[cmIt pkV bp g.lp,.mp ba (toM g.la)]) (fun g=>g.k<=z.eras.length/\FewI g.lp g.la g.sz g.acc g.t/\g.t<=g.k*2000000/\erGo a.rules (z.eras.drop g.k) g.acc=R)
  (fun g=>z.eras.length - g.k) ⟨0,[],[],0,([],[]),0⟩ SFA SOA ⟨Nat.zero_le _,FewI.nil,Nat.le_refl _,hR⟩ ?_
 clear hR
 rintro⟨k,lp,la,sz,acc,t⟩ ⟨hk,hI,ht,hi⟩
 dsimp only at hk hI ht hi ⊢
 repeat (first|refine walk ?_|(refine jn ?_;(try intro F);(first|(refine bx ?_;intro bk)|(refine stA ?_)|(apply Zac;exact PuA));refine fin ?_)|(apply RD_W;rfl;intro bk))
 refine Zaf rfl (fun hc=>?_) (fun hc=>?_)
 ·simp only[decide_eq_true_eq,Int.ofNat_lt]at hc
  obtain⟨hna,hca⟩:=hE.rd k _ (List.getElem?_eq_getElem hc)
  have hem:=List.getElem_mem hc
  rw[Zag hc,erGo]at hi
  generalize z.eras[k]=e at *
  have hSl:=Zd6 a.rules e
  have hlet:=Zgw (e:=e) fun r hr=>(hS.rs r hr).2
  have h64:=Zfa (e:=e) (fun r h=>hV.i64 r h) (hZ e hem).save
  have hss:=fun w' (hw:Bel w.heap.size w w')=>Zhs Ar Az Al As cr cz cl cs a e w' (hA.up hw) hn
  have hZe:=hZ e hem
  have hHe:=hH e hem
  generalize ZaG a.rules e=S at *
  obtain⟨R2,hR2⟩:∃ R2,stGo e S acc=R2:=⟨_,rfl⟩
  rw[hR2]at hi
  simp only[DEra.enc]at hss hca
  repeat (first|(apply RL_pu;rfl;exact PuI)|(apply RD_Q;rfl;rfl;decide +kernel;rfl;rfl;exact QyI)|refine walk1 ?_|(refine jg ?_;(try intro F);(first|(apply Zae (h:=fun w' hw _=>hss w' hw);rfl;rintro v O' ⟨A5,c5,rfl,rfl⟩)|(refine bx ?_;intro bk)|(refine stA ?_));first|refine⟨_,EndsA,QFI,?_⟩|refine fin ?_)|(refine jn ?_;(try intro F);(first|(refine bx ?_;intro bk)|(refine stA ?_)|(apply Zac;first|exact PuI|exact PuA));first|refine⟨_,EndsA,QFI,?_⟩|refine fin ?_)|(apply RD_W;rfl;intro bk))
  generalize bk=b9
  refine Zai [(2,.pointer (some ⟨b1,0,none⟩)),(5,.map (some bp)),(6,.map (some ba)),(9,.pointer (some ⟨b9,0,none⟩)),(17,.slice Ae z.eras.length ce),(18,.int .i64 z.eras.length),(19,.int .i64 k),(25,.slice A5 S.length c5),(26,.int .i64 S.length)]
   [.blk b1 [.slice Ar a.rules.length cr,.slice Az a.zones.length cz,.slice Al a.links.length cl,.slice As a.shifts.length cs] 174,.blk b9 [.int .i64 e.off,.int .i64 e.kind,.int .i64 e.save,.string e.set,.string e.format,.bool e.til.is,.int .i64 e.til.year,.int .i64 e.til.month,.int .i64 e.til.day.kind,.int .i64 e.til.day.week,.int .i64 e.til.day.day,.int .i64 e.til.at_.sec,.int .i64 e.til.at_.base] 75,.row (.slice A5 S.length c5) 155 2 S.length (S.flatMap Za4)]
   (fun g:FwG=>[(7,.int .i64 g.sz),(27,.int .i64 g.k)]) (fun g=>[cmIt pkV bp g.lp,.mp ba (toM g.la)]) (fun g=>g.k<=S.length/\FewI g.lp g.la g.sz g.acc g.t/\g.t<=k*2000000+g.k/\stGo e (S.drop g.k) g.acc=R2)
   (fun g=>S.length - g.k) ⟨0,lp,la,sz,acc,t⟩ SFA SOA ⟨Nat.zero_le _,hI,Nat.le_trans ht (Nat.le_add_right _ _),hR2⟩ ?_
  clear hR2 hI ht lp la sz acc t
  rintro⟨j,lp,la,sz,acc,t⟩ ⟨hj,hI,ht,hi2⟩
  dsimp only at hj hI ht hi2 ⊢
  repeat (first|refine walk ?_|(refine jn ?_;(try intro F);(first|(refine bx ?_;intro bk)|(refine stA ?_)|(apply Zac;exact PuA));refine fin ?_)|(apply RD_W;rfl;intro bk))
  refine Zaf rfl (fun hc2=>?_) (fun hc2=>?_)
  ·simp only[decide_eq_true_eq,Int.ofNat_lt]at hc2
   have hg1:=Zao Za4.len S j _ 0 _ (List.getElem?_eq_getElem hc2) rfl
   have hgn:∀ i v,(Za4 S[j])[i]?=some v->(S.flatMap Za4)[j*2+i]?=some v:=fun i v hv=>Zao Za4.len S j _ i v (List.getElem?_eq_getElem hc2) hv
   have hxm:=List.getElem_mem hc2
   rw[Zag hc2,stGo]at hi2
   generalize S[j]=x at *
   have hfa:=fun w' (hw:Bel w.heap.size w w')=>Zgb e.format x.2 e.off x.1 w' (hL.up hw) hZe.fmt (hlet x hxm) hZe.off (h64 x hxm)
   have hal:=Zml e.format.data.toList e.off x.1 x.2.data.toList
   have hho:=hHe x hxm
   unfold Za0 at hho
   simp only[Bool.and_eq_true,decide_eq_true_eq]at hho
   obtain⟨hh1,hh2⟩:=hho
   generalize ZeW e.format.data.toList e.off x.1 x.2.data.toList=abr at *
   obtain⟨ab,er⟩:=abr
   dsimp only at hi2 hal
   replace hfa:∀ w',Bel w.heap.size w w'->Does Tryz.prog 99 [.string e.format,.int .i64 e.off,.agg #[.int .i64 x.1,.string x.2]] w' (fun v O=>v = .tuple #[.string (bz ab),.int .i64 er]/\O=[]):=hfa
   simp only[Za4]at hgn hg1
   have hcp:=hI.cp.get (e.off+x.1,bz ab)
   have hcq:=hI.ca.get (bz ab)
   have hsz:=ZsQ ab
   have hlim:=hI.lim
   have hst:=hI.step (e.off+x.1) ab hal
   have hl2:(mget (toM (cput (bz ab) (cget (bz ab) la+1) (cins (bz ab) la))) (bz ab)).getD (.int .i64 0) = .int .i64 (cget (bz ab) la+1):=(ZmV _ _).trans (by rw[Zl8 _ _ _ (ZkB _ _)])
   by_cases hnew:cget (bz ab) la+1=1
   ·rw[if_pos hnew]at hst
    have hb:decide (cget (bz ab) la+1=1)=true:=decide_eq_true hnew
    repeat (first|(apply RL_pu;rfl;exact ZiK)|(refine js ?_;(first|(refine Zab hfa ?_)|(apply ZeP (kv:=pkV) (k:=(e.off+x.1,bz ab)) (l:=lp);rfl;rfl;(focus repeat' constructor))|(apply ZeO (kv:=pkV) (k:=(e.off+x.1,bz ab)) (l:=lp);rfl;rfl;rfl;(focus repeat' constructor))|(apply Zcb;rfl;rfl;rfl;exact Zhp _ _ la;(focus repeat' constructor))|(refine bx ?_;intro bk)))|(apply RD_Q;rfl;rfl;decide +kernel;rfl;rfl;exact Zob)|refine walk1 ?_|(refine Zdo ?_;intro F;(refine Zab hfa ?_);refine⟨_,EndsA,SubO.right _ _,?_⟩)|(refine RD_Lw ?_;intro F;(first|(refine Zab hfa ?_)|(apply ZeP (kv:=pkV) (k:=(e.off+x.1,bz ab)) (l:=lp);rfl;rfl;(focus repeat' constructor))|(apply ZeO (kv:=pkV) (k:=(e.off+x.1,bz ab)) (l:=lp);rfl;rfl;rfl;(focus repeat' constructor))|(apply Zcb;rfl;rfl;rfl;exact Zhp _ _ la;(focus repeat' constructor))|(refine bx ?_;intro bk)|(refine stA ?_)|(apply Zac;first|exact ZiK|exact PuA));refine⟨_,EndsA,Zts,?_⟩)|(apply RD_W;rfl;intro bk))
    exact⟨⟨j+1,cinc (e.off+x.1,bz ab) lp,cinc (bz ab) la,sz+(((bz ab).size:Int)+1),_,t+1⟩,OA,⟨OA,by dsimp only;rw[hsz];exact hst,OA,hi2⟩,SFA,SOA⟩
   ·rw[if_neg hnew]at hst
    have hb:decide (cget (bz ab) la+1=1)=false:=decide_eq_false hnew
    repeat (first|(apply RL_pu;rfl;exact ZiK)|(refine js ?_;(first|(refine Zab hfa ?_)|(apply ZeP (kv:=pkV) (k:=(e.off+x.1,bz ab)) (l:=lp);rfl;rfl;(focus repeat' constructor))|(apply ZeO (kv:=pkV) (k:=(e.off+x.1,bz ab)) (l:=lp);rfl;rfl;rfl;(focus repeat' constructor))|(apply Zcb;rfl;rfl;rfl;exact Zhp _ _ la;(focus repeat' constructor))|(refine bx ?_;intro bk)))|(apply RD_Q;rfl;rfl;decide +kernel;rfl;rfl;exact Zob)|refine walk1 ?_|(refine Zdo ?_;intro F;(refine Zab hfa ?_);refine⟨_,EndsA,SubO.right _ _,?_⟩)|(refine RD_Lw ?_;intro F;(first|(refine Zab hfa ?_)|(apply ZeP (kv:=pkV) (k:=(e.off+x.1,bz ab)) (l:=lp);rfl;rfl;(focus repeat' constructor))|(apply ZeO (kv:=pkV) (k:=(e.off+x.1,bz ab)) (l:=lp);rfl;rfl;rfl;(focus repeat' constructor))|(apply Zcb;rfl;rfl;rfl;exact Zhp _ _ la;(focus repeat' constructor))|(refine bx ?_;intro bk)|(refine stA ?_)|(apply Zac;first|exact ZiK|exact PuA));refine⟨_,EndsA,Zts,?_⟩)|(apply RD_W;rfl;intro bk))
    exact⟨⟨j+1,cinc (e.off+x.1,bz ab) lp,cinc (bz ab) la,sz,_,t+1⟩,OA,⟨OA,hst,OA,hi2⟩,SFA,SOA⟩
  ·simp only[decide_eq_false_iff_not,Int.ofNat_lt]at hc2
   rw[List.drop_eq_nil_of_le (by omega),stGo]at hi2
   subst hi2
   repeat (first|refine walk ?_|(refine jn ?_;(try intro F);(first|(refine bx ?_;intro bk)|(refine stA ?_)|(apply Zac;exact PuA));refine fin ?_)|(apply RD_W;rfl;intro bk))
   exact⟨⟨k+1,lp,la,sz,acc,t⟩,OA,⟨OA,hI,OA,hi⟩,SFA,SOA⟩
 ·simp only[decide_eq_false_iff_not,Int.ofNat_lt]at hc
  rw[List.drop_eq_nil_of_le (by omega),erGo]at hi
  subst hi
  rw[<- hI.few]
  by_cases h120:(lp.length:Int)<=120
  ·have b1:decide ((lp.length:Int)<=120)=true:=decide_eq_true h120
   rw[b1]
   repeat (first|(apply RL_pu;rfl;exact ZkR)|(apply RD_Q;rfl;rfl;decide +kernel;rfl;rfl;exact QyFewB1)|refine walk1 ?_|(refine jn ?_;(try intro F);(first|(refine bx ?_;intro bk)|(refine stA ?_)|(apply Zac;first|exact ZkR|exact PuA));first|refine⟨_,EndsA,QFFewB1,?_⟩|refine fin ?_)|(apply RD_W;rfl;intro bk))
   exact rtA
  ·have b1:decide ((lp.length:Int)<=120)=false:=decide_eq_false h120
   rw[b1]
   repeat (first|refine und ?_|(apply RL_pu;rfl;exact ZkR)|(apply RD_Q;rfl;rfl;decide +kernel;rfl;rfl;exact QyFewB1)|refine walk1 ?_|(refine jn ?_;(try intro F);(first|(refine bx ?_;intro bk)|(refine stA ?_)|(apply Zac;first|exact ZkR|exact PuA));first|refine⟨_,EndsA,QFFewB1,?_⟩|refine fin ?_)|(apply RD_W;rfl;intro bk))
   exact rtA
structure ZnG where
 k:Nat
 p:Int
theorem Zuv {G:Prop}(h:G:=by(first|exact PuI|(apply Zan;rfl;rfl;exact hb))):G:=h
theorem Zuu {G:Prop}(h:G:=by(first|exact PuI|(apply Zan;rfl;rfl;exact hbk))):G:=h
theorem Zut {G:Prop}(h:G:=by(first|exact Zuu|(apply Zal;rfl;rfl;exact hb2))):G:=h
set_option maxHeartbeats 2000000 in
theorem Zn2 (Ar Az Al As:Option Addr)(cr cz cl cs:Nat)(a:DSource)(w:World)(hL:LibW w)(hG:Glob w)(hA:Zar w Ar Az Al As cr cz cl cs a)(hS:ZcK a)(hV:Zgl a)(hZ:∀ z∈a.zones,∀ e∈z.eras,ZiQ e) :
  Does Tryz.prog 117 [srcV Ar Az Al As cr cz cl cs a] w (fun v O=>v=ptV (Za9 a.rules a.zones 0)/\O=[]):=by
 have hnz:=hS.nz
 obtain⟨res,hres⟩:∃ res,Za9 a.rules a.zones 0=res:=⟨_,rfl⟩
 rw[hres]
 refine Zaa Tryz.func117 rfl rfl rfl rfl ?_
 repeat (first|(refine js ?_;(refine bx ?_;intro bk))|refine walk ?_)
 rename_i b1
 obtain⟨b2,hb2⟩:∃ b2,bk=b2:=⟨_,rfl⟩
 rw[hb2]
 clear hb2 bk
 refine Zai [(1,.pointer (some ⟨b1,0,none⟩)),(2,.pointer (some ⟨b2,0,none⟩)),(13,.slice Az a.zones.length cz),(14,.int .i64 a.zones.length)] [.blk b2 [.int .i64 0,.int .i64 0,.int .i64 0] 138,.blk b1 [.slice Ar a.rules.length cr,.slice Az a.zones.length cz,.slice Al a.links.length cl,.slice As a.shifts.length cs] 174]
  (fun k:Nat=>[(15,.int .i64 k)]) (fun _=>[]) (fun k=>k<=a.zones.length/\Za9 a.rules (a.zones.drop k) k=res) (fun k=>a.zones.length - k) 0 SFA SOA ⟨Nat.zero_le _,hres⟩ ?_
 clear hres
 rintro i ⟨hil,hi⟩
 repeat (first|(refine js ?_;(refine bx ?_;intro bk))|refine walk ?_)
 refine Zaf rfl (fun hc=>?_) (fun hc=>?_)
 ·simp only[decide_eq_true_eq,Int.ofNat_lt]at hc
  obtain⟨hna,cs1,⟨Ae,ce,hEz,rfl⟩,hca⟩:=hA.z i _ (List.getElem?_eq_getElem hc)
  have hmem:=List.getElem_mem hc
  rw[Zag hc,Za9]at hi
  generalize a.zones[i]=z at *
  have hel:=(hS.zs z hmem).2.1
  by_cases hz0:z.eras=[]
  ·rw[if_pos hz0]at hi
   subst hi
   have hb:decide ((z.eras.length:Int)=0)=true:=by rw[hz0];rfl
   simp only[ptV,plV,Zaq.enc]
   repeat (first|(apply RL_pu;rfl;exact Zuv)|(refine js ?_;(refine bx ?_;intro bk))|refine walk1 ?_)
   exact rtC
  have hb:decide ((z.eras.length:Int)=0)=false:=decide_eq_false (fun h=>hz0 (List.eq_nil_of_length_eq_zero (by omega)))
  rw[if_neg hz0]at hi
  obtain⟨r2,hr2⟩:∃ r2,ZbS a.rules z.eras i z.eras.length 0=r2:=⟨_,rfl⟩
  rw[hr2]at hi
  have hfw:r2=none->∀ w',Bel w.heap.size w w'->Does Tryz.prog 184 [srcV Ar Az Al As cr cz cl cs a,.agg #[.string z.name,.slice Ae z.eras.length ce]] w' (fun v O=>v = .bool (Zem a.rules z)/\O=[]):=fun hn w' hw =>
   ZsZ Ar Az Al As cr cz cl cs a z Ae ce w' (hL.up hw) (hA.up hw) (hEz.up hw) hS hV hel (fun e he=>hZ z hmem e he) (Zjv (hr2.trans hn))
  generalize Zem a.rules z=fw at *
  repeat (first|(apply RL_pu;rfl;exact Zuv)|(refine js ?_;(refine bx ?_;intro bk))|refine walk1 ?_)
  rename_i b5
  obtain⟨b6,hb6⟩:∃ b6,bk=b6:=⟨_,rfl⟩
  rw[hb6]
  clear hb6 bk
  refine Zai [(1,.pointer (some ⟨b1,0,none⟩)),(2,.pointer (some ⟨b2,0,none⟩)),(4,.int .i64 i),(5,.pointer (some ⟨b5,0,none⟩)),(6,.pointer (some ⟨b6,0,none⟩)),(13,.slice Az a.zones.length cz),(14,.int .i64 a.zones.length),(15,.int .i64 i),(28,.slice Ae z.eras.length ce),(29,.int .i64 z.eras.length)] [.blk b5 [.string z.name,.slice Ae z.eras.length ce] 71,.blk b2 [.int .i64 0,.int .i64 0,.int .i64 0] 138,.blk b1 [.slice Ar a.rules.length cr,.slice Az a.zones.length cz,.slice Al a.links.length cl,.slice As a.shifts.length cs] 174]
   (fun g:ZnG=>[(30,.int .i64 g.k)]) (fun g=>[.blk b6 [.int .i64 2,.int .i64 i,.int .i64 g.p] 138]) (fun g=>g.k<=z.eras.length/\ZbS a.rules z.eras i (z.eras.length - g.k) g.k=r2) (fun g=>z.eras.length - g.k) ⟨0,0⟩ SFA SOA ⟨Nat.zero_le _,hr2⟩ ?_
  clear hr2
  rintro⟨k,p⟩ ⟨hkl,hi2⟩
  dsimp only at hkl hi2 ⊢
  repeat (first|(refine js ?_;(refine bx ?_;intro bk))|refine walk ?_)
  refine Zaf rfl (fun hc2=>?_) (fun hc2=>?_)
  ·simp only[decide_eq_true_eq,Int.ofNat_lt]at hc2
   clear hna hca
   obtain⟨hna,hca⟩:=hEz.rd k _ (List.getElem?_eq_getElem hc2)
   have hem:=List.getElem_mem hc2
   have hgd:z.eras.getD k dE0=z.eras[k]:=by rw[List.getD_eq_getElem?_getD,List.getElem?_eq_getElem hc2];rfl
   obtain⟨f,hf⟩:∃ f,z.eras.length - k=f+1:=⟨z.eras.length - k - 1,by omega⟩
   rw[hf,ZbS,hgd]at hi2
   generalize z.eras[k]=e at *
   have hbk:decide ((k:Int)=0)=decide (k=0):=by rw[decide_eq_decide];omega
   generalize decide (k=0)=fst at *
   have her:=fun w' (hw:Bel w.heap.size w w')=>Zsf Ar Az Al As cr cz cl cs a e fst w' (hL.up hw) (hA.up hw) hS hV (hZ z hmem e hem)
   have hen:=fun w' (hw:Bel w.heap.size w w')=>Zsg Ar Az Al As cr cz cl cs a Ae ce z.eras k w' (hG.up hw) (hA.up hw) hS hV (hEz.up hw) hel hc2
   generalize ZcZ a.rules e fst=ec at *
   generalize ZcI a.rules z.eras k=nc at *
   obtain⟨off,kind,save,set,format,⟨is,year,month,⟨dk,dw,dd⟩,⟨us,ub⟩⟩⟩:=e
   simp only[DEra.enc]at her hca
   by_cases h1:ec=0
   ·rw[if_neg (fun h=>h h1)]at hi2
    subst h1
    by_cases h2:nc=0
    ·rw[if_neg (fun h=>h h2)]at hi2
     subst h2
     repeat (first|(apply RL_pu;rfl;exact Zuu)|(refine js ?_;(first|(refine Zab her ?_)|(refine Zab hen ?_)|(refine bx ?_;intro bk)))|refine walk1 ?_)
     exact⟨⟨k+1,k⟩,OA,⟨OA,by dsimp only;rw[show z.eras.length - (k+1)=f by omega];exact hi2⟩,SFA,SOA⟩
    ·rw[if_pos h2]at hi2
     subst hi2
     dsimp only at hi
     subst hi
     have hb2:(!decide (nc=0))=true:=by rw[decide_eq_false h2];rfl
     simp only[ptV,plV,Zaq.enc]
     repeat (first|(apply RL_pu;rfl;exact Zut)|(refine js ?_;(first|(refine Zab her ?_)|(refine Zab hen ?_)|(refine bx ?_;intro bk)))|refine walk1 ?_)
     exact rtC
   ·rw[if_pos h1]at hi2
    subst hi2
    dsimp only at hi
    subst hi
    have hb2:(!decide (ec=0))=true:=by rw[decide_eq_false h1];rfl
    simp only[ptV,plV,Zaq.enc]
    repeat (first|(apply RL_pu;rfl;exact Zut)|(refine js ?_;(first|(refine Zab her ?_)|(refine bx ?_;intro bk)))|refine walk1 ?_)
    exact rtC
  ·simp only[decide_eq_false_iff_not,Int.ofNat_lt]at hc2
   rw[show z.eras.length - k=0 by omega,ZbS]at hi2
   subst hi2
   replace hfw:=hfw rfl
   dsimp only at hi
   cases fw with
   | false =>
    rw[if_pos rfl]at hi
    subst hi
    simp only[ptV,plV,Zaq.enc]
    repeat (first|(refine js ?_;(first|(refine Zab hfw ?_)|(refine bx ?_;intro bk)))|refine walk ?_)
    exact rtC
   | true =>
    rw[if_neg (by decide)]at hi
    repeat (first|(refine js ?_;(first|(refine Zab hfw ?_)|(refine bx ?_;intro bk)))|refine walk ?_)
    exact⟨i+1,OA,⟨OA,hi⟩,SFA,SOA⟩
 ·simp only[decide_eq_false_iff_not,Int.ofNat_lt]at hc
  rw[List.drop_eq_nil_of_le (by omega),Za9]at hi
  subst hi
  repeat (first|(refine js ?_;(refine bx ?_;intro bk))|refine walk ?_)
  exact rtC
attribute [local irreducible] RW
theorem Zhu {s:DSource}{p:Zaq}{e:Int}(h:ZdS s=some (p,e)):e≠0:=by
 unfold ZdS at h
 repeat' split at h
 all_goals first|(simp only[Option.some.injEq,Prod.mk.injEq]at h;omega)|cases h
theorem Zm2 {rs:List DRule}{x:ByteArray}{i:Nat}{e:Int}(h:ZbM rs x=some (i,e)):e≠0:=by
 unfold ZbM at h
 split at h
 ·simp only[Option.some.injEq,Prod.mk.injEq]at h;omega
 ·split at h
  ·rename_i h2
   simp only[Option.some.injEq]at h
   rw[h]at h2
   exact h2
  ·split at h
   ·simp only[Option.some.injEq,Prod.mk.injEq]at h;omega
   ·cases h
theorem Zfq (rs:List DRule):∀ (l:List ByteArray) {p:Zaq} {e:Int},Zcr rs l=some (p,e)->e≠0
 | [],_,_,h=>by cases h
 | x::l,p,e,h=>by
  rw[Zcr]at h
  split at h
  ·rename_i i e2 h2
   simp only[Option.some.injEq,Prod.mk.injEq]at h
   rw[<- h.2]
   exact Zm2 h2
  ·exact Zfq rs l h
theorem Zdw (s:DSource):∀ (l seen:List ByteArray) (i:Nat) {p:Zaq} {e:Int},ZaZ s l seen i=some (p,e)->e≠0
 | [],_,_,_,_,h=>by cases h
 | x::l,seen,i,p,e,h=>by
  rw[ZaZ]at h
  split at h
  ·simp only[Option.some.injEq,Prod.mk.injEq]at h;omega
  ·split at h
   ·simp only[Option.some.injEq,Prod.mk.injEq]at h;omega
   ·split at h
    ·simp only[Option.some.injEq,Prod.mk.injEq]at h;omega
    ·exact Zdw s l _ _ h
theorem ZgD (s:DSource):∀ (l:List DLink) (i:Nat) {p:Zaq} {e:Int},Zbf s l i=some (p,e)->e≠0
 | [],_,_,_,h=>by cases h
 | x::l,i,p,e,h=>by
  rw[Zbf]at h
  repeat' split at h
  all_goals first|(simp only[Option.some.injEq,Prod.mk.injEq]at h;omega)|exact ZgD s l _ h
theorem ZgC (s:DSource):∀ (l:List DLink) (i:Nat) {p:Zaq} {e:Int},Zbe s l i=some (p,e)->e≠0
 | [],_,_,_,h=>by cases h
 | x::l,i,p,e,h=>by
  rw[Zbe]at h
  split at h
  ·simp only[Option.some.injEq,Prod.mk.injEq]at h;omega
  ·exact ZgC s l _ h
theorem ZhS {s:DSource}{p:Zaq}{e:Int}(h:ZcV s=some (p,e)):e≠0:=by
 unfold ZcV at h
 cases h1:Za5 s s.zones 0 with
 | some x=>rw[h1]at h;simp only[Option.some_or,Option.some.injEq]at h;subst h;exact Zd0 s _ _ _ _ h1
 | none =>
  rw[h1,Option.none_or]at h
  cases h2:Zbf s s.links 0 with
  | some x=>rw[h2]at h;simp only[Option.some_or,Option.some.injEq]at h;subst h;exact ZgD s _ _ h2
  | none =>
   rw[h2,Option.none_or]at h
   exact ZgC s _ _ h
theorem ZlX (rs:List DRule)(l:List DEra)(i:Nat):∀ (f k:Nat) {p:Zaq} {e:Int},ZbS rs l i f k=some (p,e)->e≠0
 | 0,_,_,_,h=>by cases h
 | f+1,k,p,e,h=>by
  rw[ZbS]at h
  split at h
  ·rename_i h2;simp only[Option.some.injEq,Prod.mk.injEq]at h;rw[<- h.2];exact h2
  ·split at h
   ·rename_i h2;simp only[Option.some.injEq,Prod.mk.injEq]at h;rw[<- h.2];exact h2
   ·exact ZlX rs l i f _ h
theorem ZfT (rs:List DRule):∀ (l:List DZone) (i:Nat) {p:Zaq} {e:Int},Za9 rs l i=some (p,e)->e≠0
 | [],_,_,_,h=>by cases h
 | z::l,i,p,e,h=>by
  rw[Za9]at h
  split at h
  ·simp only[Option.some.injEq,Prod.mk.injEq]at h;omega
  ·split at h
   ·rename_i x h2
    simp only[Option.some.injEq]at h
    subst h
    exact ZlX rs _ _ _ _ h2
   ·split at h
    ·simp only[Option.some.injEq,Prod.mk.injEq]at h;omega
    ·exact ZfT rs l _ h
instance : ZeroT Tryz.prog 175 [.nilFunc]:=⟨by kernel_rfl⟩
theorem ZiM {G:Prop}(h:G:=by(first|(apply ZiD;rfl;(focus repeat' constructor);rfl)|(apply Zal;rfl;rfl;exact hb))):G:=h
theorem ZiL {G:Prop}(h:G:=by(apply ZiD;rfl;(focus repeat' constructor);rfl)):G:=h
set_option maxHeartbeats 2000000 in
theorem Zpm (Ar Az Al As:Option Addr)(cr cz cl cs:Nat)(a:DSource)(w:World)(hL:LibW w)(hG:Glob w)(hA:Zar w Ar Az Al As cr cz cl cs a)(hS:ZcK a)(hV:SavI a)(hZ:∀ z∈a.zones,∀ e∈z.eras,ZiQ e) :
  Does Tryz.prog 75 [srcV Ar Az Al As cr cz cl cs a] w (fun v O=>v=ptV (accD a)/\O=[]):=by
 have h1:∀ w',Bel w.heap.size w w'->Does Tryz.prog 113 ([srcV Ar Az Al As cr cz cl cs a]++[]++[]) w' (fun v O=>v=ptV (ZdS a)/\O=[]):=fun w' hw=>Zp8 Ar Az Al As cr cz cl cs a w' (hA.up hw) hS.nz
 have h2:∀ w',Bel w.heap.size w w'->Does Tryz.prog 114 ([srcV Ar Az Al As cr cz cl cs a]++[]++[]) w' (fun v O=>v=ptV (ZeT a)/\O=[]):=fun w' hw=>ZqB Ar Az Al As cr cz cl cs a w' (hG.up hw) (hA.up hw) hS hV
 have h3:∀ w',Bel w.heap.size w w'->Does Tryz.prog 115 ([srcV Ar Az Al As cr cz cl cs a]++[]++[]) w' (fun v O=>v=ptV (ZaZ a a.shifts [] 0)/\O=[]):=fun w' hw=>ZlF Ar Az Al As cr cz cl cs a w' (hA.up hw) hS
 have h4:∀ w',Bel w.heap.size w w'->Does Tryz.prog 116 ([srcV Ar Az Al As cr cz cl cs a]++[]++[]) w' (fun v O=>v=ptV (ZcV a)/\O=[]):=fun w' hw=>ZnA Ar Az Al As cr cz cl cs a w' (hA.up hw) hS
 have h5:ZeT a=none->∀ w',Bel w.heap.size w w'->Does Tryz.prog 117 ([srcV Ar Az Al As cr cz cl cs a]++[]++[]) w' (fun v O=>v=ptV (Za9 a.rules a.zones 0)/\O=[]):=fun hs w' hw=>Zn2 Ar Az Al As cr cz cl cs a w' (hL.up hw) (hG.up hw) (hA.up hw) hS (Zk8 hs) hZ
 have n1:=fun{p e} => @Zhu a p e
 have n2:∀ {p e},ZeT a=some (p,e)->e≠0:=fun h=>Zfq a.rules _ h
 have n3:∀ {p e},ZaZ a a.shifts [] 0=some (p,e)->e≠0:=fun h=>Zdw a _ _ _ h
 have n4:=fun{p e} => @ZhS a p e
 have n5:∀ {p e},Za9 a.rules a.zones 0=some (p,e)->e≠0:=fun h=>ZfT a.rules _ _ h
 unfold accD
 generalize ZdS a=o1 at *
 generalize ZeT a=o2 at *
 generalize ZaZ a a.shifts [] 0=o3 at *
 generalize ZcV a=o4 at *
 generalize Za9 a.rules a.zones 0=o5 at *
 refine Zaa Tryz.func75 rfl rfl rfl rfl ?_
 repeat (first|(refine js ?_;(refine bx ?_;intro bk))|refine ZmR ?_)
 refine W_block (Zpn 6 (ZdO ?_))
 cases o1 with
 | some x =>
  obtain⟨⟨p1,p2,p3⟩,e⟩:=x
  have hb:(!decide (e=0))=true:=by rw[decide_eq_false (n1 rfl)];rfl
  simp only[Option.some_or,ptV,plV,Zaq.enc]at h1 ⊢
  repeat (first|(apply RL_pu;rfl;exact ZiM)|(refine js ?_;(first|(refine ZfI (fun w' hw _=>h1 w' hw) ?_)|(refine bx ?_;intro bk)))|refine walk1 ?_)
  exact rtC
 | none =>
 simp only[ptV,plV,Zaq.enc]at h1
 rw[Option.none_or]
 repeat (first|(apply RL_pu;rfl;exact ZiL)|(refine js ?_;(first|(refine ZfI (fun w' hw _=>h1 w' hw) ?_)|(refine bx ?_;intro bk)))|refine walk1 ?_)
 refine ZdO ?_
 cases o2 with
 | some x =>
  obtain⟨⟨p1,p2,p3⟩,e⟩:=x
  have hb:(!decide (e=0))=true:=by rw[decide_eq_false (n2 rfl)];rfl
  simp only[Option.some_or,ptV,plV,Zaq.enc]at h2 ⊢
  repeat (first|(apply RL_pu;rfl;exact ZiM)|(refine js ?_;(first|(refine ZfI (fun w' hw _=>h2 w' hw) ?_)|(refine bx ?_;intro bk)))|refine walk1 ?_)
  exact rtC
 | none =>
 replace h5:=h5 rfl
 simp only[ptV,plV,Zaq.enc]at h2
 rw[Option.none_or]
 repeat (first|(apply RL_pu;rfl;exact ZiL)|(refine js ?_;(first|(refine ZfI (fun w' hw _=>h2 w' hw) ?_)|(refine bx ?_;intro bk)))|refine walk1 ?_)
 refine ZdO ?_
 cases o3 with
 | some x =>
  obtain⟨⟨p1,p2,p3⟩,e⟩:=x
  have hb:(!decide (e=0))=true:=by rw[decide_eq_false (n3 rfl)];rfl
  simp only[Option.some_or,ptV,plV,Zaq.enc]at h3 ⊢
  repeat (first|(apply RL_pu;rfl;exact ZiM)|(refine js ?_;(first|(refine ZfI (fun w' hw _=>h3 w' hw) ?_)|(refine bx ?_;intro bk)))|refine walk1 ?_)
  exact rtC
 | none =>
 simp only[ptV,plV,Zaq.enc]at h3
 rw[Option.none_or]
 repeat (first|(apply RL_pu;rfl;exact ZiL)|(refine js ?_;(first|(refine ZfI (fun w' hw _=>h3 w' hw) ?_)|(refine bx ?_;intro bk)))|refine walk1 ?_)
 refine ZdO ?_
 cases o4 with
 | some x =>
  obtain⟨⟨p1,p2,p3⟩,e⟩:=x
  have hb:(!decide (e=0))=true:=by rw[decide_eq_false (n4 rfl)];rfl
  simp only[Option.some_or,ptV,plV,Zaq.enc]at h4 ⊢
  repeat (first|(apply RL_pu;rfl;exact ZiM)|(refine js ?_;(first|(refine ZfI (fun w' hw _=>h4 w' hw) ?_)|(refine bx ?_;intro bk)))|refine walk1 ?_)
  exact rtC
 | none =>
 simp only[ptV,plV,Zaq.enc]at h4
 rw[Option.none_or]
 repeat (first|(apply RL_pu;rfl;exact ZiL)|(refine js ?_;(first|(refine ZfI (fun w' hw _=>h4 w' hw) ?_)|(refine bx ?_;intro bk)))|refine walk1 ?_)
 refine ZdO ?_
 cases o5 with
 | some x =>
  obtain⟨⟨p1,p2,p3⟩,e⟩:=x
  have hb:(!decide (e=0))=true:=by rw[decide_eq_false (n5 rfl)];rfl
  simp only[ptV,plV,Zaq.enc]at h5 ⊢
  repeat (first|(apply RL_pu;rfl;exact ZiM)|(refine js ?_;(first|(refine ZfI (fun w' hw _=>h5 w' hw) ?_)|(refine bx ?_;intro bk)))|refine walk1 ?_)
  exact rtC
 | none =>
 simp only[ptV,plV,Zaq.enc]at h5 ⊢
 repeat (first|(apply RL_pu;rfl;exact ZiL)|(refine js ?_;(first|(refine ZfI (fun w' hw _=>h5 w' hw) ?_)|(refine bx ?_;intro bk)))|refine walk1 ?_)
 refine ZdO ?_
 repeat (first|(refine js ?_;(refine bx ?_;intro bk))|refine walk ?_)
 exact rtC
end Go.Proofs.YtpipekfmecikmaaGreatDoor
namespace Go.Proofs.YtpipekfmecikmaaGreatDoor
open Go Go.RowKit Go.Wk
attribute [local irreducible] W RL Does Zat Zaj retQ Calls Pu Stp RD Qy Ay Zak
theorem Zfi {s:DSource}{p:Zaq}{e:Int}(h:accD s=some (p,e)):e≠0:=by
 unfold accD at h
 cases h1:ZdS s with
 | some x=>rw[h1]at h;simp only[Option.some_or,Option.some.injEq]at h;subst h;exact Zhu h1
 | none =>
  rw[h1,Option.none_or]at h
  cases h2:ZeT s with
  | some x=>rw[h2]at h;simp only[Option.some_or,Option.some.injEq]at h;subst h;exact Zfq _ _ h2
  | none =>
   rw[h2,Option.none_or]at h
   cases h3:ZaZ s s.shifts [] 0 with
   | some x=>rw[h3]at h;simp only[Option.some_or,Option.some.injEq]at h;subst h;exact Zdw _ _ _ _ h3
   | none =>
    rw[h3,Option.none_or]at h
    cases h4:ZcV s with
    | some x=>rw[h4]at h;simp only[Option.some_or,Option.some.injEq]at h;subst h;exact ZhS h4
    | none =>
     rw[h4,Option.none_or]at h
     exact ZfT _ _ _ h
structure Zb7 (w:World)(Ar Az Al As:Option Addr)(cr cz cl cs:Nat)(a:DSource):Prop where
 L:LibW w
 G:Glob w
 A:Zar w Ar Az Al As cr cz cl cs a
 S:ZcK a
 V:SavI a
 Z:∀ z∈a.zones,∀ e∈z.eras,ZiQ e
theorem Zb7.up {w w':World}{Ar Az Al As:Option Addr}{cr cz cl cs:Nat}{a:DSource}(h:Zb7 w Ar Az Al As cr cz cl cs a)(hb:Bel w.heap.size w w'):Zb7 w' Ar Az Al As cr cz cl cs a :=
 ⟨h.L.up hb,h.G.up hb,h.A.up hb,h.S,h.V,h.Z⟩
end Go.Proofs.YtpipekfmecikmaaGreatDoor
namespace Go.Proofs.YtpipekfmecikmaaGreatDoor
open Go Go.RowKit Go.Wk
def Zyq:ByteArray:=⟨#[69,105,114,101]⟩
def Zla (m:Int)(d:DDay)(sec save:Int):DRule:=⟨Zyq,1972,1048576,m,d,⟨sec,2⟩,save,ByteArray.empty⟩
def sunD (n:Int):DDay:=⟨3,0,n⟩
def yrR:List DRule->Int->Int
 | [],y=>y
 | r::l,y=>yrR l (if r.to=1048576 then max y r.from_ else max (max y r.from_) r.to)
def yr0 (l:List DEra):Int:=if 1<l.length then (l.getD (l.length - 2) dE0).til.year else 1849
def ZdD (l:List DEra):DEra:=l.getD (l.length - 1) dE0
def ZaJ (s:DSource)(l:List DEra):List DRule:=if (ZdD l).kind=2 then ofB s.rules (ZdD l).set else []
def Zhf (s:DSource)(l:List DEra):Int:=yrR (ZaJ s l) (yr0 l)+1
theorem ZvT:∀ (l:List DRule) (y:Int),y<=yrR l y/\∀ r∈l,r.from_<=yrR l y/\(r.to=1048576\/r.to<=yrR l y)
 | [],y=>⟨Int.le_refl _,fun r h=>by cases h⟩
 | a::l,y=>by
  obtain⟨h1,h2⟩:=ZvT l (if a.to=1048576 then max y a.from_ else max (max y a.from_) a.to)
  rw[yrR]
  generalize yrR l _=z at *
  refine⟨by split at h1 <;> omega,fun r hr=>?_⟩
  rcases List.mem_cons.1 hr with rfl|hr
  ·split at h1 <;> omega
  ·exact h2 r hr
structure Zbx where
 std:ByteArray
 stdOff:Int
 dst:ByteArray
 dstOff:Int
 start:ZcP
 fin:ZcP
deriving DecidableEq
def Zbx.enc (p:Zbx):List Value:=[.string p.std,.int .i64 p.stdOff,.string p.dst,.int .i64 p.dstOff,.int .i64 p.start.kind,.int .i64 p.start.day,.int .i64 p.start.month,.int .i64 p.start.week,.int .i64 p.start.sec,.int .i64 p.fin.kind,.int .i64 p.fin.day,.int .i64 p.fin.month,.int .i64 p.fin.week,.int .i64 p.fin.sec]
def ZeX (e:DEra)(save:Int)(letter:ByteArray):ByteArray:=⟨(ZeW e.format.data.toList e.off save letter.data.toList).1.toArray⟩
def xxxB:ByteArray:=⟨#[88,88,88]⟩
def Zbi (e:DEra)(save:Int)(letter:ByteArray):Zbx :=
 if save=0 then ⟨ZeX e save letter,e.off,ByteArray.empty,0,dt0,dt0⟩
 else ⟨xxxB,e.off,ZeX e save letter,e.off+save,⟨2,0,0,0,0⟩,⟨1,365,0,0,86400+save⟩⟩
def Zgv (e:DEra)(start fin:DRule):Zbx :=
 ⟨ZeX e fin.save fin.letter,e.off,ZeX e start.save start.letter,e.off+start.save,(ZdK start e.off 0).1,(ZdK fin e.off start.save).1⟩
def seF:List DRule->Nat->Option Nat × Option Nat->Option Nat × Option Nat
 | [],_,a=>a
 | r::l,i,a=>seF l (i+1) (if r.to=1048576 then (if r.save=0 then (a.1,some i) else (some i,a.2)) else a)
def untN:DUntil:=⟨false,0,0,⟨0,0,0⟩,⟨0,0⟩⟩
def ZoI:DRule:={ Zla 10 ⟨1,0,31⟩ 7200 (-3600) with from_:=1971,to:=1971 }
def Zd3:DRule:=Zla 3 (sunD 15) 7200 0
def ZiZ:DRule:=Zla 10 ⟨2,0,0⟩ 3600 (-3600)
def Ze9:DEra:=⟨0,0,0,ByteArray.empty,⟨#[71,77,84]⟩,⟨true,1968,10,⟨1,0,27⟩,⟨0,0⟩⟩⟩
def Zdv:DEra:=⟨3600,2,0,Zyq,⟨#[73,83,84,47,71,77,84]⟩,untN⟩
def dubN:ByteArray:=⟨#[69,117,114,111,112,101,47,68,117,98,108,105,110]⟩
def Zl0:DSource:=⟨[ZoI,Zd3,ZiZ],[⟨dubN,[Ze9,Zdv]⟩],[],[]⟩
def zoA:ByteArray:=⟨#[65]⟩
def Zdu:DEra:=⟨19800,0,0,ByteArray.empty,⟨#[73,83,84]⟩,untN⟩
def oneS:DSource:=⟨[],[⟨zoA,[Zdu]⟩],[],[]⟩
def Zhk:DEra:=⟨0,0,0,ByteArray.empty,⟨#[71,77,84]⟩,⟨true,1950,1,⟨1,0,1⟩,⟨0,0⟩⟩⟩
def Zdt:DEra:=⟨3600,1,3600,ByteArray.empty,⟨#[77,83,84]⟩,untN⟩
def twoS:DSource:=⟨[],[⟨zoA,[Zhk,Zdt]⟩],[],[]⟩
def istP:Zbx:=⟨⟨#[73,83,84]⟩,3600,⟨#[71,77,84]⟩,0,⟨3,0,10,5,7200⟩,⟨3,0,3,3,7200⟩⟩
def Zvn:Zbx:=⟨⟨#[73,83,84]⟩,19800,ByteArray.empty,0,dt0,dt0⟩
def mstP:Zbx:=⟨xxxB,3600,⟨#[77,83,84]⟩,7200,⟨2,0,0,0,0⟩,⟨1,365,0,0,90000⟩⟩
theorem Zy8:ZdK Zd3 3600 (-3600)=(⟨3,0,3,3,7200⟩,0):=by decide +kernel
def Zro:DRule:={ Zla 10 ⟨1,0,31⟩ 7200 0 with at_:=⟨7200,1⟩ }
theorem Zy7:ZdK Zro 0 3600=(⟨1,304,0,0,10800⟩,0):=by decide +kernel
theorem Zy6:ZdK (Zla 2 ⟨1,0,29⟩ 0 0) 0 0=(dt0,2):=by decide +kernel
theorem Zy5:ZdK (Zla 3 (sunD 9) 0 0) 0 0=(dt0,2):=by decide +kernel
theorem Zy4:ZdK { Zd3 with to:=2010 } 0 0=(dt0,2):=by decide +kernel
theorem Zo9:accD Zl0=none:=by decide +kernel
theorem Zr0:accD oneS=none:=by decide +kernel
theorem Zrr:accD twoS=none:=by decide +kernel
theorem Zyp:Zgv Zdv ZiZ Zd3=istP:=by decide +kernel
theorem Zzi:Zbi Zdu 0 ByteArray.empty=Zvn:=by decide +kernel
theorem Zrq:Zbi Zdt 3600 ByteArray.empty=mstP:=by decide +kernel
theorem ZsC:Zhf Zl0 [Ze9,Zdv]=1973:=by decide +kernel
theorem Zv2:Zhf oneS [Zdu]=1850:=by decide +kernel
theorem ZvZ:Zhf twoS [Zhk,Zdt]=1951:=by decide +kernel
attribute [local irreducible] W RL Does Zat Zaj retQ Calls Pu Stp RD Qy Ay Zak
structure FtE (e:DEra):Prop where
 f:e.format.size<=1000000000
 o : -1000000<=e.off/\e.off<=1000000
structure FtRu (r:DRule):Prop where
 l:r.letter.size<=1000000000
 v : -1000000<=r.save/\r.save<=1000000
theorem Zfg (e:DEra)(r:DRule)(w:World)(hL:LibW w)(he:FtE e)(hr:FtRu r) :
  Does Tryz.prog 77 [.agg e.enc.toArray,.agg r.enc.toArray] w (fun v O=>v = .string (ZeX e r.save r.letter)/\O=[]):=by
 have h:=fun w' (hw:Bel w.heap.size w w')=>Zgb e.format r.letter e.off r.save w' (hL.up hw) he.f hr.l (by have:=he.o;unfold I64;omega) (by have:=hr.v;unfold I64;omega)
 unfold xpV at h
 have h2:∀ w',Bel w.heap.size w w'->Does Tryz.prog 99 [.string e.format,.int .i64 e.off,.agg #[.int .i64 r.save,.string r.letter]] w' (fun v O=>(∃ er,v = .tuple #[.string (ZeX e r.save r.letter),.int .i64 er])/\O=[]):=fun w' hw =>
  (h w' hw).mono fun v O hv=>⟨⟨_,hv.1⟩,hv.2⟩
 clear h
 generalize ZeX e r.save r.letter=res at *
 obtain⟨nm,fr,to,mo,⟨dk,dw,dd⟩,⟨cs,cb⟩,sv,le⟩:=r
 obtain⟨off,kd,esv,st,fm,⟨ui,uy,um,⟨ud1,ud2,ud3⟩,⟨uc1,uc2⟩⟩⟩:=e
 show Does _ _ [.agg #[.int .i64 off,.int .i64 kd,.int .i64 esv,.string st,.string fm,.bool ui,.int .i64 uy,.int .i64 um,.int .i64 ud1,.int .i64 ud2,.int .i64 ud3,.int .i64 uc1,.int .i64 uc2],.agg #[.string nm,.int .i64 fr,.int .i64 to,.int .i64 mo,.int .i64 dk,.int .i64 dw,.int .i64 dd,.int .i64 cs,.int .i64 cb,.int .i64 sv,.string le]] w _
 refine Zaa Tryz.func77 rfl rfl rfl rfl ?_
 repeat (first|(refine js ?_;(first|(apply Zae (h:=fun w' hw _=>h2 w' hw);rfl;rintro v O' ⟨⟨er,rfl⟩,rfl⟩)|(refine bx ?_;intro bk)))|refine walk ?_)
 exact rtA
theorem ZfC (e:DEra)(r:DRule)(w:World)(hL:LibW w)(he:FtE e)(hr:FtRu r) :
  Does Tryz.prog 40 [.agg e.enc.toArray,.agg r.enc.toArray] w (fun v O=>v = .agg (Zbi e r.save r.letter).enc.toArray/\O=[]):=by
 have ha:=fun w' (hw:Bel w.heap.size w w')=>Zfg e r w' (hL.up hw) he hr
 have ho:=he.o
 have hv:=hr.v
 unfold Zbi
 generalize ZeX e r.save r.letter=res at *
 obtain⟨nm,fr,to,mo,⟨dk,dw,dd⟩,⟨cs,cb⟩,sv,le⟩:=r
 obtain⟨off,kd,esv,st,fm,⟨ui,uy,um,⟨ud1,ud2,ud3⟩,⟨uc1,uc2⟩⟩⟩:=e
 dsimp only at ho hv ⊢
 show Does _ _ [.agg #[.int .i64 off,.int .i64 kd,.int .i64 esv,.string st,.string fm,.bool ui,.int .i64 uy,.int .i64 um,.int .i64 ud1,.int .i64 ud2,.int .i64 ud3,.int .i64 uc1,.int .i64 uc2],.agg #[.string nm,.int .i64 fr,.int .i64 to,.int .i64 mo,.int .i64 dk,.int .i64 dw,.int .i64 dd,.int .i64 cs,.int .i64 cb,.int .i64 sv,.string le]] w _
 refine Zaa Tryz.func40 rfl rfl rfl rfl ?_
 repeat (first|refine walk ?_|(refine jn ?_;(try intro F);(first|(refine bx ?_;intro bk)|(refine stA ?_)|(apply Zac;exact PuA));refine fin ?_)|(apply RD_W;rfl;intro bk))
 refine Zaf rfl (fun hc=>?_) (fun hc=>?_)
 ·obtain rfl:sv=0:=of_decide_eq_true hc
  rw[if_pos rfl]
  repeat (first|refine walk ?_|(refine jg ?_;(try intro F);(first|(refine Zab ha ?_)|(refine bx ?_;intro bk)|(refine stA ?_));refine fin ?_)|(refine jn ?_;(try intro F);(first|(refine bx ?_;intro bk)|(refine stA ?_)|(apply Zac;exact PuA));refine fin ?_)|(apply RD_W;rfl;intro bk))
  exact ret_1 _ [] (.cellB rfl (by repeat' constructor) rfl rfl) .nil ⟨rfl,rfl⟩
 ·rw[if_neg (of_decide_eq_false hc)]
  repeat (first|refine walk ?_|(refine jg ?_;(try intro F);(first|(refine Zab ha ?_)|(refine bx ?_;intro bk)|(refine stA ?_));refine fin ?_)|(refine jn ?_;(try intro F);(first|(refine bx ?_;intro bk)|(refine stA ?_)|(apply Zac;exact PuA));refine fin ?_)|(apply RD_W;rfl;intro bk))
  exact ret_1 _ [] (.cellB rfl (by repeat' constructor) rfl rfl) .nil ⟨rfl,rfl⟩
theorem ZlO (e:DEra)(r q:DRule)(w:World)(hL:LibW w)(hG:Glob w)(hF:FtG w)(he:FtE e)(hr:FtRu r)(hq:FtRu q) :
  Does Tryz.prog 41 [.agg e.enc.toArray,.agg r.enc.toArray,.agg q.enc.toArray] w (fun v O=>v = .agg (Zgv e r q).enc.toArray/\O=[]):=by
 have ha:=fun w' (hw:Bel w.heap.size w w')=>Zfg e q w' (hL.up hw) he hq
 have hb:=fun w' (hw:Bel w.heap.size w w')=>Zfg e r w' (hL.up hw) he hr
 have hc:=fun w' (hw:Bel w.heap.size w w')=>Zf9 r e.off 0 w' (hG.up hw) (hF.up hw)
 have hd:=fun w' (hw:Bel w.heap.size w w')=>Zf9 q e.off r.save w' (hG.up hw) (hF.up hw)
 have ho:=he.o
 have hv:=hr.v
 unfold Zgv
 unfold ZqQ at hc hd
 generalize ZeX e q.save q.letter=res1 at *
 generalize ZeX e r.save r.letter=res2 at *
 generalize ZdK r e.off 0=x1 at *
 generalize ZdK q e.off r.save=x2 at *
 obtain⟨⟨x11,x12,x13,x14,x15⟩,x16⟩:=x1
 obtain⟨⟨x21,x22,x23,x24,x25⟩,x26⟩:=x2
 obtain⟨nm,fr,to,mo,⟨dk,dw,dd⟩,⟨cs,cb⟩,sv,le⟩:=r
 obtain⟨nm2,fr2,to2,mo2,⟨dk2,dw2,dd2⟩,⟨cs2,cb2⟩,sv2,le2⟩:=q
 obtain⟨off,kd,esv,st,fm,⟨ui,uy,um,⟨ud1,ud2,ud3⟩,⟨uc1,uc2⟩⟩⟩:=e
 dsimp only[ZcP.enc]at ho hv hc hd ⊢
 show Does _ _ [.agg #[.int .i64 off,.int .i64 kd,.int .i64 esv,.string st,.string fm,.bool ui,.int .i64 uy,.int .i64 um,.int .i64 ud1,.int .i64 ud2,.int .i64 ud3,.int .i64 uc1,.int .i64 uc2],.agg #[.string nm,.int .i64 fr,.int .i64 to,.int .i64 mo,.int .i64 dk,.int .i64 dw,.int .i64 dd,.int .i64 cs,.int .i64 cb,.int .i64 sv,.string le],.agg #[.string nm2,.int .i64 fr2,.int .i64 to2,.int .i64 mo2,.int .i64 dk2,.int .i64 dw2,.int .i64 dd2,.int .i64 cs2,.int .i64 cb2,.int .i64 sv2,.string le2]] w _
 refine Zaa Tryz.func41 rfl rfl rfl rfl ?_
 repeat (first|refine walk ?_|(refine jg ?_;(try intro F);(first|(refine Zab ha ?_)|(refine Zab hb ?_)|(refine Zab hc ?_)|(refine Zab hd ?_)|(refine bx ?_;intro bk)|(refine stA ?_));refine fin ?_)|(refine jn ?_;(try intro F);(first|(refine bx ?_;intro bk)|(refine stA ?_)|(apply Zac;exact PuA));refine fin ?_)|(apply RD_W;rfl;intro bk))
 exact ret_1 _ [] (.cellB rfl (by repeat' constructor) rfl rfl) .nil ⟨rfl,rfl⟩
theorem ZAv (Ar Az Al As:Option Addr)(cr cz cl cs:Nat)(a:DSource)(p:Zaq)(e:Int)(w:World)(h:Zb7 w Ar Az Al As cr cz cl cs a)(hf:accD a=some (p,e)) :
  Does Tryz.prog 75 [srcV Ar Az Al As cr cz cl cs a] w (fun v O=>(∃ p1 p2 p3,v = .tuple #[.agg #[.int .i64 p1,.int .i64 p2,.int .i64 p3],.int .i64 e])/\O=[]):=by
 have:=Zpm Ar Az Al As cr cz cl cs a w h.L h.G h.A h.S h.V h.Z
 rw[hf]at this
 exact this.mono fun v O hv=>⟨⟨p.part,p.index,p.era,hv.1⟩,hv.2⟩
theorem ZzM (Ar Az Al As:Option Addr)(cr cz cl cs:Nat)(a:DSource)(w:World)(h:Zb7 w Ar Az Al As cr cz cl cs a)(hf:accD a=none) :
  Does Tryz.prog 75 [srcV Ar Az Al As cr cz cl cs a] w (fun v O=>v = .tuple #[.agg #[.int .i64 0,.int .i64 0,.int .i64 0],.int .i64 0]/\O=[]):=by
 have:=Zpm Ar Az Al As cr cz cl cs a w h.L h.G h.A h.S h.V h.Z
 rwa[hf]at this
theorem Zo5 (Ar Az Al As:Option Addr)(cr cz cl cs:Nat)(a:DSource)(zone:Int)(p:Zaq)(e:Int)(w:World)(h:Zb7 w Ar Az Al As cr cz cl cs a)(hf:accD a=some (p,e))(hne:e≠0) :
  Does Tryz.prog 39 [srcV Ar Az Al As cr cz cl cs a,.int .i64 zone] w (fun v O=>v = .tuple #[.slice none 0 0,.slice none 0 0,.int .i64 e]/\O=[]):=by
 have ha:=fun w' (hw:Bel w.heap.size w w')=>ZAv Ar Az Al As cr cz cl cs a p e w' (h.up hw) hf
 have hb:(!decide (e=0))=true:=by rw[decide_eq_false hne];rfl
 refine Zaa Tryz.func39 rfl rfl rfl rfl ?_
 repeat (first|(apply RL_pu;rfl;(apply Zal;rfl;rfl;exact hb))|(refine js ?_;(first|(apply Zae (h:=fun w' hw _=>ha w' hw);rfl;rintro v O' ⟨⟨p1,p2,p3,rfl⟩,rfl⟩)|(refine bx ?_;intro bk)))|refine walk1 ?_)
 exact Zck _ _ _ [] (.tmp rfl) (.tmp rfl) (.tmp rfl) .nil ⟨rfl,rfl⟩
theorem ZxT {G:Prop}(h:G:=by(apply Zaz;rfl;rfl;exact b1)):G:=h
theorem ZxS {G:Prop}(h:G:=by(first|exact ZxT|(apply Zb6;rfl;rfl;exact b2))):G:=h
theorem Zo4 (Ar Az Al As:Option Addr)(cr cz cl cs:Nat)(a:DSource)(zone:Int)(w:World)(h:Zb7 w Ar Az Al As cr cz cl cs a)(hf:accD a=none)(hz:zone<0\/(a.zones.length:Int)<=zone) :
  Does Tryz.prog 39 [srcV Ar Az Al As cr cz cl cs a,.int .i64 zone] w (fun v O=>v = .tuple #[.slice none 0 0,.slice none 0 0,.int .i64 3]/\O=[]):=by
 have ha:=fun w' (hw:Bel w.heap.size w w')=>ZzM Ar Az Al As cr cz cl cs a w' (h.up hw) hf
 refine Zaa Tryz.func39 rfl rfl rfl rfl ?_
 by_cases h0:zone<0
 ·have b1:decide (zone<0)=true:=decide_eq_true h0
  repeat (first|refine und ?_|(apply RL_pu;rfl;exact ZxT)|(refine js ?_;(first|(refine Zab ha ?_)|(refine bx ?_;intro bk)))|refine walk1 ?_)
  exact Zck _ _ _ [] (.tmp rfl) (.tmp rfl) (.tmp rfl) .nil ⟨rfl,rfl⟩
 ·have b1:decide (zone<0)=false:=decide_eq_false h0
  have b2:decide ((a.zones.length:Int)<=zone)=true:=decide_eq_true (by omega)
  repeat (first|refine und ?_|(apply RL_pu;rfl;exact ZxS)|(refine js ?_;(first|(refine Zab ha ?_)|(refine bx ?_;intro bk)))|refine walk1 ?_)
  exact Zck _ _ _ [] (.tmp rfl) (.tmp rfl) (.tmp rfl) .nil ⟨rfl,rfl⟩
def ZAG (A:Option Addr)(n c:Nat)(R:List DRule)(v:Value)(O:List It):Prop :=
 ∃ B d,v = .tuple #[.slice A n c,.slice B R.length d,.int .i64 0]/\O=[.row (.slice B R.length d) 68 11 R.length (R.flatMap DRule.enc)]
theorem ZxR {G:Prop}(h:G:=by(first|exact ZxS|(apply Pu_indexAddr;rfl;rfl;omega;omega;first|exact hna|exact hna2)|(apply Pu_loadO1;rfl;exact hca 1 _ rfl)|(apply Pu_loadON;rfl;exact hca2;rfl)|(apply Zal;rfl;rfl;exact b3))):G:=h
theorem Zkt (Ar Az Al As:Option Addr)(cr cz cl cs:Nat)(a:DSource)(k:Nat)(z:DZone)(A:Option Addr)(c:Nat)(w:World)(h:Zb7 w Ar Az Al As cr cz cl cs a)(hf:accD a=none)(hk:a.zones[k]?=some z)
  (hna:Az≠none) (hca:Zau w ((adr Az).add (k*2)) [.string z.name,.slice A z.eras.length c]) (hE:RdSl w A c DEra.enc 13 z.eras) (hne:z.eras≠[]) :
  Does Tryz.prog 39 [srcV Ar Az Al As cr cz cl cs a,.int .i64 k] w (ZAG A z.eras.length c (ZaJ a z.eras)):=by
 have ha:=fun w' (hw:Bel w.heap.size w w')=>ZzM Ar Az Al As cr cz cl cs a w' (h.up hw) hf
 have hl:0<z.eras.length:=List.length_pos_iff.2 hne
 have hkl:k<a.zones.length:=(List.getElem?_eq_some_iff.1 hk).1
 have hlz:=h.A.zle
 have hlc:=h.A.zcap
 have hel:=hE.le
 have hec:=hE.cap
 have hnr:=h.S.nr
 obtain⟨e,he⟩:∃ e,z.eras[z.eras.length - 1]?=some e:=⟨_,List.getElem?_eq_getElem (by omega)⟩
 have hle:ZdD z.eras=e:=by
  unfold ZdD
  rw[List.getD_eq_getElem?_getD,he];rfl
 have hof:=fun w' (hw:Bel w.heap.size w w')=>ZgY Ar Az Al As cr cz cl cs a e.set w' (h.A.up hw) hnr
 unfold ZaJ
 rw[hle]
 obtain⟨hna2,hca2⟩:=hE.rd _ _ he
 rw[show z.eras.length - 1=((z.eras.length:Int) - 1).toNat by omega]at hca2
 clear hle he
 have b1:decide ((k:Int)<0)=false:=decide_eq_false (by omega)
 have b2:decide ((a.zones.length:Int)<=(k:Int))=false:=decide_eq_false (by omega)
 simp only[maxLen]at hlc hec
 obtain⟨off,kd,esv,st,fm,⟨ui,uy,um,⟨ud1,ud2,ud3⟩,⟨uc1,uc2⟩⟩⟩:=e
 change Zau w _ [.int .i64 off,.int .i64 kd,.int .i64 esv,.string st,.string fm,.bool ui,.int .i64 uy,.int .i64 um,.int .i64 ud1,.int .i64 ud2,.int .i64 ud3,.int .i64 uc1,.int .i64 uc2]at hca2
 dsimp only at hof ⊢
 refine Zaa Tryz.func39 rfl rfl rfl rfl ?_
 by_cases hk2:kd=2
 ·have b3:(!decide (kd=2))=false:=by rw[decide_eq_true hk2];rfl
  rw[if_pos hk2]
  repeat (first|(apply RL_pu;rfl;exact ZxR)|(refine js ?_;(first|(refine Zab ha ?_)|(apply Zae (h:=fun w' hw _=>hof w' hw);rfl;rintro v O' ⟨B,d,rfl,rfl⟩)|(refine bx ?_;intro bk)))|refine walk1 ?_)
  exact Zck _ _ _ [.row (.slice B (ofB a.rules st).length d) 68 11 (ofB a.rules st).length ((ofB a.rules st).flatMap DRule.enc)] (.tmp rfl) (.tmp rfl) (.tmp rfl) SOA ⟨B,d,rfl,rfl⟩
 ·have b3:(!decide (kd=2))=true:=by rw[decide_eq_false hk2];rfl
  rw[if_neg hk2]
  refine ZdN 68 11 ?_
  repeat (first|(apply RL_pu;rfl;exact ZxR)|(refine js ?_;(first|(refine Zab ha ?_)|(refine bx ?_;intro bk)))|refine walk1 ?_)
  exact Zck _ _ _ [.row (.slice none 0 0) 68 11 0 []] (.tmp rfl) (.tmp rfl) (.tmp rfl) SOA ⟨none,0,rfl,rfl⟩
end Go.Proofs.YtpipekfmecikmaaGreatDoor
namespace Go.Proofs.YtpipekfmecikmaaGreatDoor
open Go Go.RowKit Go.Wk
section
variable {P:Int × ByteArray->Prop}{l:List DRule}
end
end Go.Proofs.YtpipekfmecikmaaGreatDoor
