/- Parts of the proof. -/
import Derived.Test.YtdlmhmmhdbbliaaGreatDoorV27
import Derived.Test.YtdlmhmmhdbbliaaGreatDoorV25
import Derived.Test.YtdlmhmmhdbbliaaGreatDoorV06
import Derived.Test.YtdlmhmmhdbbliaaGreatDoorV26
import Derived.Test.YtdlmhmmhdbbliaaGreatDoorV12
import Derived.Test.YtdlmhmmhdbbliaaGreatDoorV14
import Derived.Test.YtdlmhmmhdbbliaaGreatDoorV08
set_option maxHeartbeats 4000000
set_option linter.unusedVariables false
set_option linter.unusedSimpArgs false
namespace Go.Proofs.YtdlmhmmhdbbliaaGreatDoor
open Go Go.RowKit Go.Wk
attribute [local irreducible] W RL Does Zau Zak retQ Calls Pu Stp RD Qy Ay Zaj
def pEnc (x:Int × ByteArray):List Value:=[.int .i64 x.1,.string x.2]
def pkV (x:Int × ByteArray):Value := .agg (pEnc x).toArray
instance : EqE Tryz.prog 280 (Int × ByteArray) pEnc where
 h r s w:=by
  unfold pEnc
  simp[go_sem,ZdH]
  rcases r with⟨_,_⟩
  rcases s with⟨_,_⟩
  simp only[Zmn,Result.ok.injEq,and_true]
  rw[Bool.eq_iff_iff]
  simp
 g:=by kernel_rfl
theorem Zmj (k:Int × ByteArray)(w:World):∀ (l:List ((Int × ByteArray) × Int)) (i j:Nat),(Instr.findAsking 280 (pkV k) (cent pkV j l) i).run Tryz.prog w = .ok (ZoO k l i) w
 | [],_,_=>rfl
 | x::l,i,j=>by
  have h:=EqE.h (P:=Tryz.prog) (t:=280) (enc:=pEnc) k x.1 w
  rw[cent,Instr.findAsking,ZoO]
  simp only[pkV,Op.equal,Op.maxDepth]at h ⊢
  simp only[Sem.run_bind,h,Result.andThen_ok]
  by_cases hk:k=x.1
  ·rw[decide_eq_true hk,if_pos hk];rfl
  ·rw[decide_eq_false hk,if_neg hk]
   have ih:=Zmj k w l (i+1) (j+1)
   simp only[pkV]at ih
   simpa using ih
theorem ZsY (b:Bool)(k:Int × ByteArray)(d:Nat)(w:World):(Instr.checkKey b (d+1+1) 280 (.agg (pEnc k).toArray)).run Tryz.prog w = .ok () w:=by
 simp[Instr.checkKey,go_sem,pEnc]
instance : KeyT Tryz.prog 280 (Int × ByteArray) pkV where
 ask k l w:=by
  cases l with
  | nil=>simp[Instr.findKey,go_sem,cent,Instr.findNow,ZoO]
  | cons x l =>
   have h:=Zmj k w (x::l) 0 0
   simp only[cent]at h ⊢
   simp[Instr.findKey,go_sem,Instr.findNow,Instr.sameNow,pkV]
   exact h
 chk b k w:=ZsY b k 9998 w
 stay k w:=by simp[Instr.keyThatStays,Instr.sameBits,pkV,pEnc,Zjf]
def toM (l:List (ByteArray × Int)):List (ByteArray × Value):=l.map fun x=>(x.1,Value.int .i64 x.2)
theorem Zn2 (k:ByteArray):∀ l:List (ByteArray × Int),(mget (toM l) k).getD (.int .i64 0) = .int .i64 (cget k l)
 | []=>rfl
 | x::l=>by
  have ih:=Zn2 k l
  unfold toM at ih ⊢
  rw[List.map_cons,mget,cget]
  by_cases h:k=x.1
  ·rw[if_pos h,if_pos h];rfl
  ·rw[if_neg h,if_neg h];exact ih
theorem Zid (k:ByteArray)(v:Int):∀ l:List (ByteArray × Int),mset (toM l) k (.int .i64 v)=toM (cput k v (cins k l))
 | []=>by simp[toM,mset,cins,cput]
 | x::l=>by
  have ih:=Zid k v l
  unfold toM at ih ⊢
  rw[List.map_cons,mset,cins]
  by_cases h:k=x.1
  ·rw[if_pos h,if_pos h,cput,if_pos h];rfl
  ·rw[if_neg h,if_neg h,cput,if_neg h,ih];rfl
theorem Zcx {P:Program}{n:Nat}{wr:World}{fr:Fr}{O:List It}{ty:TypeId}{pos:String}{af:Array Edge}{dst:Option Tmp}{g:Option (Nat × Bool)}{Kp:Value->List It->Prop}
  {t kt et b:Nat} {x ix y:Operand} {m m':List (ByteArray × Value)} {k:ByteArray} {v:Value} {O':List It} [hM:MapT P t kt et] [StringT P kt] (hx:ev fr x=some (.map (some b))) (hi:ev fr ix=some (.string k)) (hy:ev fr y=some v) (hm:mset m k v=m')
  (hu:Upd O (.mp b m) (.mp b m') O') (kk:Kp undef O'):Stp P n wr fr O ⟨dst,.mapUpdate t x ix y,ty,pos,af,g⟩ Kp:=Stp_mapUpdate hx hi hy (hm▸hu) kk
theorem Zl2 (rs:List Zab)(e:DEra):(ZaR rs e).length<=rs.length+1:=by
 unfold ZaR
 have:=Zip rs e
 split
 ·simp
 ·split
  ·rw[List.length_map];omega
  ·simp
theorem Zl1 {rs:List Zab}{e:DEra}(hr:∀ r∈rs,r.letter.size<=1000000000):∀ x∈ZaR rs e,x.2.size<=1000000000:=by
 intro x hx
 unfold ZaR at hx
 split at hx
 ·simp only[List.mem_singleton]at hx;subst hx;exact Nat.zero_le _
 ·split at hx
  ·obtain⟨r,h,rfl⟩:=List.mem_map.1 hx
   exact hr r (Zge h)
  ·simp only[List.mem_singleton]at hx;subst hx;exact Nat.zero_le _
structure FwG where
 k:Nat
 lp:List ((Int × ByteArray) × Int)
 la:List (ByteArray × Int)
 sz:Int
 acc:List (Int × List UInt8) × List (List UInt8)
 t:Nat
theorem ZjE {G:Prop}(h:G:=by(first|(apply ZaI;rfl;rfl;omega;omega;(intro w' _ hO;exact(Za0 (hO.of (A := .row (.slice A5 S.length c5) 151 2 S.length (S.flatMap Zci)) (by repeat' constructor)) hg1).1))|(apply Zba;rfl;(focus repeat' constructor);exact hgn;rfl)|(apply Zxi (kv:=pkV) (k:=(e.off+x.1,bz ab));rfl;rfl;(focus repeat' constructor);first|exact rfl|exact Znk _ _)|(apply Zht;rfl;rfl;(focus repeat' constructor);first|exact Zn2 _ la|exact hl2)|(apply Zaw;rfl;rfl;exact hb))):G:=h
theorem Zo6 {G:Prop}(h:G:=by first|(apply Qy_y;rfl;exact ZjE)|exact QyA):G:=h
theorem ZuY {G:Prop}(h:G:=by repeat (first|exact QF.nil|(apply QF.mk;rfl;rfl;decide +kernel;exact Zo6))):G:=h
theorem ZlN {G:Prop}(h:G:=by(first|(apply ZzZ (kv:=pkV);rfl;(focus repeat' constructor))|(apply Zcg;rfl;rfl;exact b1))):G:=h
set_option maxHeartbeats 2000000 in
theorem Zux (Ar Az Al As:Option Addr)(cr cz cl cs:Nat)(a:Zai)(z:Za5)(Ae:Option Addr)(ce:Nat)(w:World)(hL:LibW w)(hA:Zav w Ar Az Al As cr cz cl cs a)(hE:RdSl w Ae ce DEra.enc 13 z.eras)(hS:ZhV a)(hV:ZlA a)(hel:z.eras.length<=1000000)
  (hZ:∀ e∈z.eras,Zr8 e) (hH:∀ e∈z.eras,∀ x∈ZaR a.rules e,Zcl e.off x.1=true) :
  Does Tryz.prog 142 [srcV Ar Az Al As cr cz cl cs a,.agg #[.string z.name,.slice Ae z.eras.length ce]] w (fun v O=>v = .bool (Zi0 a.rules z)/\O=[]):=by
 have hn:=hS.nr
 unfold Zi0
 obtain⟨R,hR⟩:∃ R,erGo a.rules z.eras ([],[])=R:=⟨_,rfl⟩
 rw[hR]
 refine Zaa Tryz.func142 rfl rfl rfl rfl ?_
 repeat (first|refine walk ?_|(refine jn ?_;(try intro F);(first|(apply ZuG (t:=278) pkV;intro bk)|(refine bx ?_;intro bk)|(refine stA ?_)|(apply Zae;exact PuA));refine fin ?_)|(apply RD_W;rfl;intro bk))
 rename_i b1 b2 bp
 generalize bk=ba
 refine Zao [(2,.pointer (some ⟨b1,0,none⟩)),(5,.map (some bp)),(6,.map (some ba)),(17,.slice Ae z.eras.length ce),(18,.int .i64 z.eras.length)] [.blk b1 [.slice Ar a.rules.length cr,.slice Az a.zones.length cz,.slice Al a.links.length cl,.slice As a.shifts.length cs] 173]
  (fun g:FwG=>[(7,.int .i64 g.sz),(19,.int .i64 g.k)]) (fun g=>[cmIt pkV bp g.lp,.mp ba (toM g.la)]) (fun g=>g.k<=z.eras.length/\FewI g.lp g.la g.sz g.acc g.t/\g.t<=g.k*2000000/\erGo a.rules (z.eras.drop g.k) g.acc=R)
  (fun g=>z.eras.length - g.k) ⟨0,[],[],0,([],[]),0⟩ SFA SOA ⟨Nat.zero_le _,FewI.nil,Nat.le_refl _,hR⟩ ?_
 clear hR
 rintro⟨k,lp,la,sz,acc,t⟩ ⟨hk,hI,ht,hi⟩
 dsimp only at hk hI ht hi ⊢
 repeat (first|refine walk ?_|(refine jn ?_;(try intro F);(first|(refine bx ?_;intro bk)|(refine stA ?_)|(apply Zae;exact PuA));refine fin ?_)|(apply RD_W;rfl;intro bk))
 refine Zaf rfl (fun hc=>?_) (fun hc=>?_)
 ·simp only[decide_eq_true_eq,Int.ofNat_lt]at hc
  obtain⟨hna,hca⟩:=hE.rd k _ (List.getElem?_eq_getElem hc)
  have hem:=List.getElem_mem hc
  rw[Zap hc,erGo]at hi
  generalize z.eras[k]=e at *
  have hSl:=Zl2 a.rules e
  have hlet:=Zl1 (e:=e) fun r hr=>(hS.rs r hr).2
  have h64:=Zik (e:=e) (fun r h=>hV.i64 r h) (hZ e hem).save
  have hss:=fun w' (hw:Bel w.heap.size w w')=>Zij Ar Az Al As cr cz cl cs a e w' (hA.up hw) hn
  have hZe:=hZ e hem
  have hHe:=hH e hem
  generalize ZaR a.rules e=S at *
  obtain⟨R2,hR2⟩:∃ R2,stGo e S acc=R2:=⟨_,rfl⟩
  rw[hR2]at hi
  simp only[DEra.enc]at hss hca
  repeat (first|(apply RL_pu;rfl;exact PuI)|(apply RD_Q;rfl;rfl;decide +kernel;rfl;rfl;exact QyI)|refine walk1 ?_|(refine jg ?_;(try intro F);(first|(apply Zag (h:=fun w' hw _=>hss w' hw);rfl;rintro v O' ⟨A5,c5,rfl,rfl⟩)|(refine bx ?_;intro bk)|(refine stA ?_));first|refine⟨_,EndsA,QFI,?_⟩|refine fin ?_)|(refine jn ?_;(try intro F);(first|(refine bx ?_;intro bk)|(refine stA ?_)|(apply Zae;first|exact PuI|exact PuA));first|refine⟨_,EndsA,QFI,?_⟩|refine fin ?_)|(apply RD_W;rfl;intro bk))
  generalize bk=b9
  refine Zao [(2,.pointer (some ⟨b1,0,none⟩)),(5,.map (some bp)),(6,.map (some ba)),(9,.pointer (some ⟨b9,0,none⟩)),(17,.slice Ae z.eras.length ce),(18,.int .i64 z.eras.length),(19,.int .i64 k),(25,.slice A5 S.length c5),(26,.int .i64 S.length)]
   [.blk b1 [.slice Ar a.rules.length cr,.slice Az a.zones.length cz,.slice Al a.links.length cl,.slice As a.shifts.length cs] 173,.blk b9 [.int .i64 e.off,.int .i64 e.kind,.int .i64 e.save,.string e.set,.string e.format,.bool e.til.is,.int .i64 e.til.year,.int .i64 e.til.month,.int .i64 e.til.day.kind,.int .i64 e.til.day.week,.int .i64 e.til.day.day,.int .i64 e.til.at_.sec,.int .i64 e.til.at_.base] 75,.row (.slice A5 S.length c5) 151 2 S.length (S.flatMap Zci)]
   (fun g:FwG=>[(7,.int .i64 g.sz),(27,.int .i64 g.k)]) (fun g=>[cmIt pkV bp g.lp,.mp ba (toM g.la)]) (fun g=>g.k<=S.length/\FewI g.lp g.la g.sz g.acc g.t/\g.t<=k*2000000+g.k/\stGo e (S.drop g.k) g.acc=R2)
   (fun g=>S.length - g.k) ⟨0,lp,la,sz,acc,t⟩ SFA SOA ⟨Nat.zero_le _,hI,Nat.le_trans ht (Nat.le_add_right _ _),hR2⟩ ?_
  clear hR2 hI ht lp la sz acc t
  rintro⟨j,lp,la,sz,acc,t⟩ ⟨hj,hI,ht,hi2⟩
  dsimp only at hj hI ht hi2 ⊢
  repeat (first|refine walk ?_|(refine jn ?_;(try intro F);(first|(refine bx ?_;intro bk)|(refine stA ?_)|(apply Zae;exact PuA));refine fin ?_)|(apply RD_W;rfl;intro bk))
  refine Zaf rfl (fun hc2=>?_) (fun hc2=>?_)
  ·simp only[decide_eq_true_eq,Int.ofNat_lt]at hc2
   have hg1:=ZaF Zci.len S j _ 0 _ (List.getElem?_eq_getElem hc2) rfl
   have hgn:∀ i v,(Zci S[j])[i]?=some v->(S.flatMap Zci)[j*2+i]?=some v:=fun i v hv=>ZaF Zci.len S j _ i v (List.getElem?_eq_getElem hc2) hv
   have hxm:=List.getElem_mem hc2
   rw[Zap hc2,stGo]at hi2
   generalize S[j]=x at *
   have hfa:=fun w' (hw:Bel w.heap.size w w')=>Zfj e.format x.2 e.off x.1 w' (hL.up hw) hZe.fmt (hlet x hxm) hZe.off (h64 x hxm)
   have hal:=ZuC e.format.data.toList e.off x.1 x.2.data.toList
   have hho:=hHe x hxm
   unfold Zcl at hho
   simp only[Bool.and_eq_true,decide_eq_true_eq]at hho
   obtain⟨hh1,hh2⟩:=hho
   generalize ZbR e.format.data.toList e.off x.1 x.2.data.toList=abr at *
   obtain⟨ab,er⟩:=abr
   dsimp only at hi2 hal
   replace hfa:∀ w',Bel w.heap.size w w'->Does Tryz.prog 67 [.string e.format,.int .i64 e.off,.agg #[.int .i64 x.1,.string x.2]] w' (fun v O=>v = .tuple #[.string (bz ab),.int .i64 er]/\O=[]):=hfa
   simp only[Zci]at hgn hg1
   have hcp:=hI.cp.get (e.off+x.1,bz ab)
   have hcq:=hI.ca.get (bz ab)
   have hsz:=Zzu ab
   have hlim:=hI.lim
   have hst:=hI.step (e.off+x.1) ab hal
   have hl2:(mget (toM (cput (bz ab) (cget (bz ab) la+1) (cins (bz ab) la))) (bz ab)).getD (.int .i64 0) = .int .i64 (cget (bz ab) la+1):=(Zn2 _ _).trans (by rw[Znj _ _ _ (Zlr _ _)])
   by_cases hnew:cget (bz ab) la+1=1
   ·rw[if_pos hnew]at hst
    have hb:decide (cget (bz ab) la+1=1)=true:=decide_eq_true hnew
    repeat (first|(apply RL_pu;rfl;exact ZjE)|(refine js ?_;(first|(refine Zac hfa ?_)|(apply Zft (kv:=pkV) (k:=(e.off+x.1,bz ab)) (l:=lp);rfl;rfl;(focus repeat' constructor))|(apply Zfs (kv:=pkV) (k:=(e.off+x.1,bz ab)) (l:=lp);rfl;rfl;rfl;(focus repeat' constructor))|(apply Zcx;rfl;rfl;rfl;exact Zid _ _ la;(focus repeat' constructor))|(refine bx ?_;intro bk)))|(apply RD_Q;rfl;rfl;decide +kernel;rfl;rfl;exact Zo6)|refine walk1 ?_|(refine Ze0 ?_;intro F;(refine Zac hfa ?_);refine⟨_,EndsA,SubO.right _ _,?_⟩)|(refine RD_Lw ?_;intro F;(first|(refine Zac hfa ?_)|(apply Zft (kv:=pkV) (k:=(e.off+x.1,bz ab)) (l:=lp);rfl;rfl;(focus repeat' constructor))|(apply Zfs (kv:=pkV) (k:=(e.off+x.1,bz ab)) (l:=lp);rfl;rfl;rfl;(focus repeat' constructor))|(apply Zcx;rfl;rfl;rfl;exact Zid _ _ la;(focus repeat' constructor))|(refine bx ?_;intro bk)|(refine stA ?_)|(apply Zae;first|exact ZjE|exact PuA));refine⟨_,EndsA,ZuY,?_⟩)|(apply RD_W;rfl;intro bk))
    exact⟨⟨j+1,cinc (e.off+x.1,bz ab) lp,cinc (bz ab) la,sz+(((bz ab).size:Int)+1),_,t+1⟩,OA,⟨OA,by dsimp only;rw[hsz];exact hst,OA,hi2⟩,SFA,SOA⟩
   ·rw[if_neg hnew]at hst
    have hb:decide (cget (bz ab) la+1=1)=false:=decide_eq_false hnew
    repeat (first|(apply RL_pu;rfl;exact ZjE)|(refine js ?_;(first|(refine Zac hfa ?_)|(apply Zft (kv:=pkV) (k:=(e.off+x.1,bz ab)) (l:=lp);rfl;rfl;(focus repeat' constructor))|(apply Zfs (kv:=pkV) (k:=(e.off+x.1,bz ab)) (l:=lp);rfl;rfl;rfl;(focus repeat' constructor))|(apply Zcx;rfl;rfl;rfl;exact Zid _ _ la;(focus repeat' constructor))|(refine bx ?_;intro bk)))|(apply RD_Q;rfl;rfl;decide +kernel;rfl;rfl;exact Zo6)|refine walk1 ?_|(refine Ze0 ?_;intro F;(refine Zac hfa ?_);refine⟨_,EndsA,SubO.right _ _,?_⟩)|(refine RD_Lw ?_;intro F;(first|(refine Zac hfa ?_)|(apply Zft (kv:=pkV) (k:=(e.off+x.1,bz ab)) (l:=lp);rfl;rfl;(focus repeat' constructor))|(apply Zfs (kv:=pkV) (k:=(e.off+x.1,bz ab)) (l:=lp);rfl;rfl;rfl;(focus repeat' constructor))|(apply Zcx;rfl;rfl;rfl;exact Zid _ _ la;(focus repeat' constructor))|(refine bx ?_;intro bk)|(refine stA ?_)|(apply Zae;first|exact ZjE|exact PuA));refine⟨_,EndsA,ZuY,?_⟩)|(apply RD_W;rfl;intro bk))
    exact⟨⟨j+1,cinc (e.off+x.1,bz ab) lp,cinc (bz ab) la,sz,_,t+1⟩,OA,⟨OA,hst,OA,hi2⟩,SFA,SOA⟩
  ·simp only[decide_eq_false_iff_not,Int.ofNat_lt]at hc2
   rw[List.drop_eq_nil_of_le (by omega),stGo]at hi2
   subst hi2
   repeat (first|refine walk ?_|(refine jn ?_;(try intro F);(first|(refine bx ?_;intro bk)|(refine stA ?_)|(apply Zae;exact PuA));refine fin ?_)|(apply RD_W;rfl;intro bk))
   exact⟨⟨k+1,lp,la,sz,acc,t⟩,OA,⟨OA,hI,OA,hi⟩,SFA,SOA⟩
 ·simp only[decide_eq_false_iff_not,Int.ofNat_lt]at hc
  rw[List.drop_eq_nil_of_le (by omega),erGo]at hi
  subst hi
  rw[<- hI.few]
  by_cases h120:(lp.length:Int)<=120
  ·have b1:decide ((lp.length:Int)<=120)=true:=decide_eq_true h120
   rw[b1]
   repeat (first|(apply RL_pu;rfl;exact ZlN)|(apply RD_Q;rfl;rfl;decide +kernel;rfl;rfl;exact QyFewB1)|refine walk1 ?_|(refine jn ?_;(try intro F);(first|(refine bx ?_;intro bk)|(refine stA ?_)|(apply Zae;first|exact ZlN|exact PuA));first|refine⟨_,EndsA,QFFewB1,?_⟩|refine fin ?_)|(apply RD_W;rfl;intro bk))
   exact rtA
  ·have b1:decide ((lp.length:Int)<=120)=false:=decide_eq_false h120
   rw[b1]
   repeat (first|refine und ?_|(apply RL_pu;rfl;exact ZlN)|(apply RD_Q;rfl;rfl;decide +kernel;rfl;rfl;exact QyFewB1)|refine walk1 ?_|(refine jn ?_;(try intro F);(first|(refine bx ?_;intro bk)|(refine stA ?_)|(apply Zae;first|exact ZlN|exact PuA));first|refine⟨_,EndsA,QFFewB1,?_⟩|refine fin ?_)|(apply RD_W;rfl;intro bk))
   exact rtA
structure ZnG where
 k:Nat
 p:Int
theorem ZvN {G:Prop}(h:G:=by(first|exact PuI|(apply Zaw;rfl;rfl;exact hb))):G:=h
theorem ZvM {G:Prop}(h:G:=by(first|exact PuI|(apply Zaw;rfl;rfl;exact hbk))):G:=h
theorem ZvL {G:Prop}(h:G:=by(first|exact ZvM|(apply Zaz;rfl;rfl;exact hb2))):G:=h
set_option maxHeartbeats 2000000 in
theorem ZoX (Ar Az Al As:Option Addr)(cr cz cl cs:Nat)(a:Zai)(w:World)(hL:LibW w)(hG:Glob w)(hA:Zav w Ar Az Al As cr cz cl cs a)(hS:ZhV a)(hV:ZlA a)(hZ:∀ z∈a.zones,∀ e∈z.eras,Zr8 e) :
  Does Tryz.prog 91 [srcV Ar Az Al As cr cz cl cs a] w (fun v O=>v=ptV (Zb7 a.rules a.zones 0)/\O=[]):=by
 have hnz:=hS.nz
 obtain⟨res,hres⟩:∃ res,Zb7 a.rules a.zones 0=res:=⟨_,rfl⟩
 rw[hres]
 refine Zaa Tryz.func91 rfl rfl rfl rfl ?_
 repeat (first|(refine js ?_;(refine bx ?_;intro bk))|refine walk ?_)
 rename_i b1
 obtain⟨b2,hb2⟩:∃ b2,bk=b2:=⟨_,rfl⟩
 rw[hb2]
 clear hb2 bk
 refine Zao [(1,.pointer (some ⟨b1,0,none⟩)),(2,.pointer (some ⟨b2,0,none⟩)),(13,.slice Az a.zones.length cz),(14,.int .i64 a.zones.length)] [.blk b2 [.int .i64 0,.int .i64 0,.int .i64 0] 131,.blk b1 [.slice Ar a.rules.length cr,.slice Az a.zones.length cz,.slice Al a.links.length cl,.slice As a.shifts.length cs] 173]
  (fun k:Nat=>[(15,.int .i64 k)]) (fun _=>[]) (fun k=>k<=a.zones.length/\Zb7 a.rules (a.zones.drop k) k=res) (fun k=>a.zones.length - k) 0 SFA SOA ⟨Nat.zero_le _,hres⟩ ?_
 clear hres
 rintro i ⟨hil,hi⟩
 repeat (first|(refine js ?_;(refine bx ?_;intro bk))|refine walk ?_)
 refine Zaf rfl (fun hc=>?_) (fun hc=>?_)
 ·simp only[decide_eq_true_eq,Int.ofNat_lt]at hc
  obtain⟨hna,cs1,⟨Ae,ce,hEz,rfl⟩,hca⟩:=hA.z i _ (List.getElem?_eq_getElem hc)
  have hmem:=List.getElem_mem hc
  rw[Zap hc,Zb7]at hi
  generalize a.zones[i]=z at *
  have hel:=(hS.zs z hmem).2.1
  by_cases hz0:z.eras=[]
  ·rw[if_pos hz0]at hi
   subst hi
   have hb:decide ((z.eras.length:Int)=0)=true:=by rw[hz0];rfl
   simp only[ptV,plV,ZaB.enc]
   repeat (first|(apply RL_pu;rfl;exact ZvN)|(refine js ?_;(refine bx ?_;intro bk))|refine walk1 ?_)
   exact rtC
  have hb:decide ((z.eras.length:Int)=0)=false:=decide_eq_false (fun h=>hz0 (List.eq_nil_of_length_eq_zero (by omega)))
  rw[if_neg hz0]at hi
  obtain⟨r2,hr2⟩:∃ r2,ZdU a.rules z.eras i z.eras.length 0=r2:=⟨_,rfl⟩
  rw[hr2]at hi
  have hfw:r2=none->∀ w',Bel w.heap.size w w'->Does Tryz.prog 142 [srcV Ar Az Al As cr cz cl cs a,.agg #[.string z.name,.slice Ae z.eras.length ce]] w' (fun v O=>v = .bool (Zi0 a.rules z)/\O=[]):=fun hn w' hw =>
   Zux Ar Az Al As cr cz cl cs a z Ae ce w' (hL.up hw) (hA.up hw) (hEz.up hw) hS hV hel (fun e he=>hZ z hmem e he) (ZrH (hr2.trans hn))
  generalize Zi0 a.rules z=fw at *
  repeat (first|(apply RL_pu;rfl;exact ZvN)|(refine js ?_;(refine bx ?_;intro bk))|refine walk1 ?_)
  rename_i b5
  obtain⟨b6,hb6⟩:∃ b6,bk=b6:=⟨_,rfl⟩
  rw[hb6]
  clear hb6 bk
  refine Zao [(1,.pointer (some ⟨b1,0,none⟩)),(2,.pointer (some ⟨b2,0,none⟩)),(4,.int .i64 i),(5,.pointer (some ⟨b5,0,none⟩)),(6,.pointer (some ⟨b6,0,none⟩)),(13,.slice Az a.zones.length cz),(14,.int .i64 a.zones.length),(15,.int .i64 i),(28,.slice Ae z.eras.length ce),(29,.int .i64 z.eras.length)] [.blk b5 [.string z.name,.slice Ae z.eras.length ce] 50,.blk b2 [.int .i64 0,.int .i64 0,.int .i64 0] 131,.blk b1 [.slice Ar a.rules.length cr,.slice Az a.zones.length cz,.slice Al a.links.length cl,.slice As a.shifts.length cs] 173]
   (fun g:ZnG=>[(30,.int .i64 g.k)]) (fun g=>[.blk b6 [.int .i64 2,.int .i64 i,.int .i64 g.p] 131]) (fun g=>g.k<=z.eras.length/\ZdU a.rules z.eras i (z.eras.length - g.k) g.k=r2) (fun g=>z.eras.length - g.k) ⟨0,0⟩ SFA SOA ⟨Nat.zero_le _,hr2⟩ ?_
  clear hr2
  rintro⟨k,p⟩ ⟨hkl,hi2⟩
  dsimp only at hkl hi2 ⊢
  repeat (first|(refine js ?_;(refine bx ?_;intro bk))|refine walk ?_)
  refine Zaf rfl (fun hc2=>?_) (fun hc2=>?_)
  ·simp only[decide_eq_true_eq,Int.ofNat_lt]at hc2
   clear hna hca
   obtain⟨hna,hca⟩:=hEz.rd k _ (List.getElem?_eq_getElem hc2)
   have hem:=List.getElem_mem hc2
   have hgd:z.eras.getD k dE0=z.eras[k]:=by rw[List.getD_eq_getElem?_getD,List.getElem?_eq_getElem hc2];rfl
   obtain⟨f,hf⟩:∃ f,z.eras.length - k=f+1:=⟨z.eras.length - k - 1,by omega⟩
   rw[hf,ZdU,hgd]at hi2
   generalize z.eras[k]=e at *
   have hbk:decide ((k:Int)=0)=decide (k=0):=by rw[decide_eq_decide];omega
   generalize decide (k=0)=fst at *
   have her:=fun w' (hw:Bel w.heap.size w w')=>Ztt Ar Az Al As cr cz cl cs a e fst w' (hL.up hw) (hA.up hw) hS hV (hZ z hmem e hem)
   have hen:=fun w' (hw:Bel w.heap.size w w')=>Ztu Ar Az Al As cr cz cl cs a Ae ce z.eras k w' (hG.up hw) (hA.up hw) hS hV (hEz.up hw) hel hc2
   generalize ZeV a.rules e fst=ec at *
   generalize Zi6 a.rules z.eras k=nc at *
   obtain⟨off,kind,save,set,format,⟨is,year,month,⟨dk,dw,dd⟩,⟨us,ub⟩⟩⟩:=e
   simp only[DEra.enc]at her hca
   by_cases h1:ec=0
   ·rw[if_neg (fun h=>h h1)]at hi2
    subst h1
    by_cases h2:nc=0
    ·rw[if_neg (fun h=>h h2)]at hi2
     subst h2
     repeat (first|(apply RL_pu;rfl;exact ZvM)|(refine js ?_;(first|(refine Zac her ?_)|(refine Zac hen ?_)|(refine bx ?_;intro bk)))|refine walk1 ?_)
     exact⟨⟨k+1,k⟩,OA,⟨OA,by dsimp only;rw[show z.eras.length - (k+1)=f by omega];exact hi2⟩,SFA,SOA⟩
    ·rw[if_pos h2]at hi2
     subst hi2
     dsimp only at hi
     subst hi
     have hb2:(!decide (nc=0))=true:=by rw[decide_eq_false h2];rfl
     simp only[ptV,plV,ZaB.enc]
     repeat (first|(apply RL_pu;rfl;exact ZvL)|(refine js ?_;(first|(refine Zac her ?_)|(refine Zac hen ?_)|(refine bx ?_;intro bk)))|refine walk1 ?_)
     exact rtC
   ·rw[if_pos h1]at hi2
    subst hi2
    dsimp only at hi
    subst hi
    have hb2:(!decide (ec=0))=true:=by rw[decide_eq_false h1];rfl
    simp only[ptV,plV,ZaB.enc]
    repeat (first|(apply RL_pu;rfl;exact ZvL)|(refine js ?_;(first|(refine Zac her ?_)|(refine bx ?_;intro bk)))|refine walk1 ?_)
    exact rtC
  ·simp only[decide_eq_false_iff_not,Int.ofNat_lt]at hc2
   rw[show z.eras.length - k=0 by omega,ZdU]at hi2
   subst hi2
   replace hfw:=hfw rfl
   dsimp only at hi
   cases fw with
   | false =>
    rw[if_pos rfl]at hi
    subst hi
    simp only[ptV,plV,ZaB.enc]
    repeat (first|(refine js ?_;(first|(refine Zac hfw ?_)|(refine bx ?_;intro bk)))|refine walk ?_)
    exact rtC
   | true =>
    rw[if_neg (by decide)]at hi
    repeat (first|(refine js ?_;(first|(refine Zac hfw ?_)|(refine bx ?_;intro bk)))|refine walk ?_)
    exact⟨i+1,OA,⟨OA,hi⟩,SFA,SOA⟩
 ·simp only[decide_eq_false_iff_not,Int.ofNat_lt]at hc
  rw[List.drop_eq_nil_of_le (by omega),Zb7]at hi
  subst hi
  repeat (first|(refine js ?_;(refine bx ?_;intro bk))|refine walk ?_)
  exact rtC
attribute [local irreducible] RW
theorem Zl7 {s:Zai}{p:ZaB}{e:Int}(h:ZfE s=some (p,e)):e≠0:=by
 unfold ZfE at h
 repeat' split at h
 all_goals first|(simp only[Option.some.injEq,Prod.mk.injEq]at h;omega)|cases h
theorem Zob {rs:List Zab}{x:ByteArray}{i:Nat}{e:Int}(h:ZcS rs x=some (i,e)):e≠0:=by
 unfold ZcS at h
 split at h
 ·simp only[Option.some.injEq,Prod.mk.injEq]at h;omega
 ·split at h
  ·rename_i h2
   simp only[Option.some.injEq]at h
   rw[h]at h2
   exact h2
  ·split at h
   ·simp only[Option.some.injEq,Prod.mk.injEq]at h;omega
   ·cases h
theorem Zio (rs:List Zab):∀ (l:List ByteArray) {p:ZaB} {e:Int},ZdI rs l=some (p,e)->e≠0
 | [],_,_,h=>by cases h
 | x::l,p,e,h=>by
  rw[ZdI]at h
  split at h
  ·rename_i i e2 h2
   simp only[Option.some.injEq,Prod.mk.injEq]at h
   rw[<- h.2]
   exact Zob h2
  ·exact Zio rs l h
theorem ZfU (s:Zai):∀ (l seen:List ByteArray) (i:Nat) {p:ZaB} {e:Int},ZbK s l seen i=some (p,e)->e≠0
 | [],_,_,_,_,h=>by cases h
 | x::l,seen,i,p,e,h=>by
  rw[ZbK]at h
  split at h
  ·simp only[Option.some.injEq,Prod.mk.injEq]at h;omega
  ·split at h
   ·simp only[Option.some.injEq,Prod.mk.injEq]at h;omega
   ·split at h
    ·simp only[Option.some.injEq,Prod.mk.injEq]at h;omega
    ·exact ZfU s l _ _ h
theorem ZhH (s:Zai):∀ (l:List Zcj) (i:Nat) {p:ZaB} {e:Int},Zbj s l i=some (p,e)->e≠0
 | [],_,_,_,h=>by cases h
 | x::l,i,p,e,h=>by
  rw[Zbj]at h
  repeat' split at h
  all_goals first|(simp only[Option.some.injEq,Prod.mk.injEq]at h;omega)|exact ZhH s l _ h
theorem ZhF (s:Zai):∀ (l:List Zcj) (i:Nat) {p:ZaB} {e:Int},Zbi s l i=some (p,e)->e≠0
 | [],_,_,_,h=>by cases h
 | x::l,i,p,e,h=>by
  rw[Zbi]at h
  split at h
  ·simp only[Option.some.injEq,Prod.mk.injEq]at h;omega
  ·exact ZhF s l _ h
theorem ZmF {s:Zai}{p:ZaB}{e:Int}(h:ZcD s=some (p,e)):e≠0:=by
 unfold ZcD at h
 cases h1:ZaU s s.zones 0 with
 | some x=>rw[h1]at h;simp only[Option.some_or,Option.some.injEq]at h;subst h;exact ZeB s _ _ _ _ h1
 | none =>
  rw[h1,Option.none_or]at h
  cases h2:Zbj s s.links 0 with
  | some x=>rw[h2]at h;simp only[Option.some_or,Option.some.injEq]at h;subst h;exact ZhH s _ _ h2
  | none =>
   rw[h2,Option.none_or]at h
   exact ZhF s _ _ h
theorem Zm2 (rs:List Zab)(l:List DEra)(i:Nat):∀ (f k:Nat) {p:ZaB} {e:Int},ZdU rs l i f k=some (p,e)->e≠0
 | 0,_,_,_,h=>by cases h
 | f+1,k,p,e,h=>by
  rw[ZdU]at h
  split at h
  ·rename_i h2;simp only[Option.some.injEq,Prod.mk.injEq]at h;rw[<- h.2];exact h2
  ·split at h
   ·rename_i h2;simp only[Option.some.injEq,Prod.mk.injEq]at h;rw[<- h.2];exact h2
   ·exact Zm2 rs l i f _ h
theorem ZgT (rs:List Zab):∀ (l:List Za5) (i:Nat) {p:ZaB} {e:Int},Zb7 rs l i=some (p,e)->e≠0
 | [],_,_,_,h=>by cases h
 | z::l,i,p,e,h=>by
  rw[Zb7]at h
  split at h
  ·simp only[Option.some.injEq,Prod.mk.injEq]at h;omega
  ·split at h
   ·rename_i x h2
    simp only[Option.some.injEq]at h
    subst h
    exact Zm2 rs _ _ _ _ h2
   ·split at h
    ·simp only[Option.some.injEq,Prod.mk.injEq]at h;omega
    ·exact ZgT rs l _ h
instance : ZeroT Tryz.prog 174 [.nilFunc]:=⟨by kernel_rfl⟩
theorem ZjG {G:Prop}(h:G:=by(first|(apply Zjv;rfl;(focus repeat' constructor);rfl)|(apply Zaz;rfl;rfl;exact hb))):G:=h
theorem ZjF {G:Prop}(h:G:=by(apply Zjv;rfl;(focus repeat' constructor);rfl)):G:=h
set_option maxHeartbeats 2000000 in
theorem Zqv (Ar Az Al As:Option Addr)(cr cz cl cs:Nat)(a:Zai)(w:World)(hL:LibW w)(hG:Glob w)(hA:Zav w Ar Az Al As cr cz cl cs a)(hS:ZhV a)(hV:SavI a)(hZ:∀ z∈a.zones,∀ e∈z.eras,Zr8 e) :
  Does Tryz.prog 54 [srcV Ar Az Al As cr cz cl cs a] w (fun v O=>v=ptV (accD a)/\O=[]):=by
 have h1:∀ w',Bel w.heap.size w w'->Does Tryz.prog 87 ([srcV Ar Az Al As cr cz cl cs a]++[]++[]) w' (fun v O=>v=ptV (ZfE a)/\O=[]):=fun w' hw=>Zq1 Ar Az Al As cr cz cl cs a w' (hA.up hw) hS.nz
 have h2:∀ w',Bel w.heap.size w w'->Does Tryz.prog 88 ([srcV Ar Az Al As cr cz cl cs a]++[]++[]) w' (fun v O=>v=ptV (ZjL a)/\O=[]):=fun w' hw=>Zrn Ar Az Al As cr cz cl cs a w' (hG.up hw) (hA.up hw) hS hV
 have h3:∀ w',Bel w.heap.size w w'->Does Tryz.prog 89 ([srcV Ar Az Al As cr cz cl cs a]++[]++[]) w' (fun v O=>v=ptV (ZbK a a.shifts [] 0)/\O=[]):=fun w' hw=>ZmD Ar Az Al As cr cz cl cs a w' (hA.up hw) hS
 have h4:∀ w',Bel w.heap.size w w'->Does Tryz.prog 90 ([srcV Ar Az Al As cr cz cl cs a]++[]++[]) w' (fun v O=>v=ptV (ZcD a)/\O=[]):=fun w' hw=>Zos Ar Az Al As cr cz cl cs a w' (hA.up hw) hS
 have h5:ZjL a=none->∀ w',Bel w.heap.size w w'->Does Tryz.prog 91 ([srcV Ar Az Al As cr cz cl cs a]++[]++[]) w' (fun v O=>v=ptV (Zb7 a.rules a.zones 0)/\O=[]):=fun hs w' hw=>ZoX Ar Az Al As cr cz cl cs a w' (hL.up hw) (hG.up hw) (hA.up hw) hS (ZsI hs) hZ
 have n1:=fun{p e} => @Zl7 a p e
 have n2:∀ {p e},ZjL a=some (p,e)->e≠0:=fun h=>Zio a.rules _ h
 have n3:∀ {p e},ZbK a a.shifts [] 0=some (p,e)->e≠0:=fun h=>ZfU a _ _ _ h
 have n4:=fun{p e} => @ZmF a p e
 have n5:∀ {p e},Zb7 a.rules a.zones 0=some (p,e)->e≠0:=fun h=>ZgT a.rules _ _ h
 unfold accD
 generalize ZfE a=o1 at *
 generalize ZjL a=o2 at *
 generalize ZbK a a.shifts [] 0=o3 at *
 generalize ZcD a=o4 at *
 generalize Zb7 a.rules a.zones 0=o5 at *
 refine Zaa Tryz.func54 rfl rfl rfl rfl ?_
 repeat (first|(refine js ?_;(refine bx ?_;intro bk))|refine ZhQ ?_)
 refine W_block (Zh5 6 (Zbw ?_))
 cases o1 with
 | some x =>
  obtain⟨⟨p1,p2,p3⟩,e⟩:=x
  have hb:(!decide (e=0))=true:=by rw[decide_eq_false (n1 rfl)];rfl
  simp only[Option.some_or,ptV,plV,ZaB.enc]at h1 ⊢
  repeat (first|(apply RL_pu;rfl;exact ZjG)|(refine js ?_;(first|(refine ZgE (fun w' hw _=>h1 w' hw) ?_)|(refine bx ?_;intro bk)))|refine walk1 ?_)
  exact rtC
 | none =>
 simp only[ptV,plV,ZaB.enc]at h1
 rw[Option.none_or]
 repeat (first|(apply RL_pu;rfl;exact ZjF)|(refine js ?_;(first|(refine ZgE (fun w' hw _=>h1 w' hw) ?_)|(refine bx ?_;intro bk)))|refine walk1 ?_)
 refine Zbw ?_
 cases o2 with
 | some x =>
  obtain⟨⟨p1,p2,p3⟩,e⟩:=x
  have hb:(!decide (e=0))=true:=by rw[decide_eq_false (n2 rfl)];rfl
  simp only[Option.some_or,ptV,plV,ZaB.enc]at h2 ⊢
  repeat (first|(apply RL_pu;rfl;exact ZjG)|(refine js ?_;(first|(refine ZgE (fun w' hw _=>h2 w' hw) ?_)|(refine bx ?_;intro bk)))|refine walk1 ?_)
  exact rtC
 | none =>
 replace h5:=h5 rfl
 simp only[ptV,plV,ZaB.enc]at h2
 rw[Option.none_or]
 repeat (first|(apply RL_pu;rfl;exact ZjF)|(refine js ?_;(first|(refine ZgE (fun w' hw _=>h2 w' hw) ?_)|(refine bx ?_;intro bk)))|refine walk1 ?_)
 refine Zbw ?_
 cases o3 with
 | some x =>
  obtain⟨⟨p1,p2,p3⟩,e⟩:=x
  have hb:(!decide (e=0))=true:=by rw[decide_eq_false (n3 rfl)];rfl
  simp only[Option.some_or,ptV,plV,ZaB.enc]at h3 ⊢
  repeat (first|(apply RL_pu;rfl;exact ZjG)|(refine js ?_;(first|(refine ZgE (fun w' hw _=>h3 w' hw) ?_)|(refine bx ?_;intro bk)))|refine walk1 ?_)
  exact rtC
 | none =>
 simp only[ptV,plV,ZaB.enc]at h3
 rw[Option.none_or]
 repeat (first|(apply RL_pu;rfl;exact ZjF)|(refine js ?_;(first|(refine ZgE (fun w' hw _=>h3 w' hw) ?_)|(refine bx ?_;intro bk)))|refine walk1 ?_)
 refine Zbw ?_
 cases o4 with
 | some x =>
  obtain⟨⟨p1,p2,p3⟩,e⟩:=x
  have hb:(!decide (e=0))=true:=by rw[decide_eq_false (n4 rfl)];rfl
  simp only[Option.some_or,ptV,plV,ZaB.enc]at h4 ⊢
  repeat (first|(apply RL_pu;rfl;exact ZjG)|(refine js ?_;(first|(refine ZgE (fun w' hw _=>h4 w' hw) ?_)|(refine bx ?_;intro bk)))|refine walk1 ?_)
  exact rtC
 | none =>
 simp only[ptV,plV,ZaB.enc]at h4
 rw[Option.none_or]
 repeat (first|(apply RL_pu;rfl;exact ZjF)|(refine js ?_;(first|(refine ZgE (fun w' hw _=>h4 w' hw) ?_)|(refine bx ?_;intro bk)))|refine walk1 ?_)
 refine Zbw ?_
 cases o5 with
 | some x =>
  obtain⟨⟨p1,p2,p3⟩,e⟩:=x
  have hb:(!decide (e=0))=true:=by rw[decide_eq_false (n5 rfl)];rfl
  simp only[ptV,plV,ZaB.enc]at h5 ⊢
  repeat (first|(apply RL_pu;rfl;exact ZjG)|(refine js ?_;(first|(refine ZgE (fun w' hw _=>h5 w' hw) ?_)|(refine bx ?_;intro bk)))|refine walk1 ?_)
  exact rtC
 | none =>
 simp only[ptV,plV,ZaB.enc]at h5 ⊢
 repeat (first|(apply RL_pu;rfl;exact ZjF)|(refine js ?_;(first|(refine ZgE (fun w' hw _=>h5 w' hw) ?_)|(refine bx ?_;intro bk)))|refine walk1 ?_)
 refine Zbw ?_
 repeat (first|(refine js ?_;(refine bx ?_;intro bk))|refine walk ?_)
 exact rtC
end Go.Proofs.YtdlmhmmhdbbliaaGreatDoor
namespace Go.Proofs.YtdlmhmmhdbbliaaGreatDoor
open Go Go.RowKit Go.Wk
attribute [local irreducible] W RL Does Zau Zak retQ Calls Pu Stp RD Qy Ay Zaj
theorem ZzH {s:Zai}{p:ZaB}{e:Int}(h:accD s=some (p,e)):e≠0:=by
 unfold accD at h
 cases h1:ZfE s with
 | some x=>rw[h1]at h;simp only[Option.some_or,Option.some.injEq]at h;subst h;exact Zl7 h1
 | none =>
  rw[h1,Option.none_or]at h
  cases h2:ZjL s with
  | some x=>rw[h2]at h;simp only[Option.some_or,Option.some.injEq]at h;subst h;exact Zio _ _ h2
  | none =>
   rw[h2,Option.none_or]at h
   cases h3:ZbK s s.shifts [] 0 with
   | some x=>rw[h3]at h;simp only[Option.some_or,Option.some.injEq]at h;subst h;exact ZfU _ _ _ _ h3
   | none =>
    rw[h3,Option.none_or]at h
    cases h4:ZcD s with
    | some x=>rw[h4]at h;simp only[Option.some_or,Option.some.injEq]at h;subst h;exact ZmF h4
    | none =>
     rw[h4,Option.none_or]at h
     exact ZgT _ _ _ h
structure ZdG (w:World)(Ar Az Al As:Option Addr)(cr cz cl cs:Nat)(a:Zai):Prop where
 L:LibW w
 G:Glob w
 A:Zav w Ar Az Al As cr cz cl cs a
 S:ZhV a
 V:SavI a
 Z:∀ z∈a.zones,∀ e∈z.eras,Zr8 e
theorem ZdG.up {w w':World}{Ar Az Al As:Option Addr}{cr cz cl cs:Nat}{a:Zai}(h:ZdG w Ar Az Al As cr cz cl cs a)(hb:Bel w.heap.size w w'):ZdG w' Ar Az Al As cr cz cl cs a :=
 ⟨h.L.up hb,h.G.up hb,h.A.up hb,h.S,h.V,h.Z⟩
end Go.Proofs.YtdlmhmmhdbbliaaGreatDoor
namespace Go.Proofs.YtdlmhmmhdbbliaaGreatDoor
open Go Go.RowKit Go.Wk
structure SmE (e:DEra):Prop where
 set:e.set.size<=100
 fmt:e.format.size<=100
 off : -1000000<=e.off/\e.off<=1000000
 save : -1000000<=e.save/\e.save<=1000000
 kind : -1000000<=e.kind/\e.kind<=1000000
structure Sml (s:Zai):Prop where
 nr:s.rules.length<=100
 nz:s.zones.length<=100
 nl:s.links.length<=100
 ns:s.shifts.length<=100
 rs:∀ r∈s.rules,r.name.size<=100/\r.letter.size<=100/\-1000000<=r.save/\r.save<=1000000
 zs:∀ z∈s.zones,z.name.size<=100/\z.eras.length<=100/\∀ e∈z.eras,SmE e
 ls:∀ l∈s.links,l.target.size<=100/\l.name.size<=100
theorem Sml.acc {w:World}{Ar Az Al As:Option Addr}{cr cz cl cs:Nat}{a:Zai}(h:Sml a)(hL:LibW w)(hG:Glob w)(hA:Zav w Ar Az Al As cr cz cl cs a):ZdG w Ar Az Al As cr cz cl cs a where
 L:=hL
 G:=hG
 A:=hA
 S:=⟨by have:=h.nr;omega,by have:=h.nz;omega,by have:=h.nl;omega,by have:=h.ns;omega,fun r hr=>by obtain⟨h1,h2,_⟩:=h.rs r hr;omega,fun z hz=>by
  obtain⟨h1,h2,h3⟩:=h.zs z hz
  exact⟨by omega,by omega,fun e he=>by have h4:=(h3 e he).set;have h5:=(h3 e he).fmt;omega⟩,fun l hl=>by obtain⟨h1,h2⟩:=h.ls l hl;omega⟩
 V:=fun r hr=>by obtain⟨_,_,h1,h2⟩:=h.rs r hr;omega
 Z:=fun z hz e he=>by
  have h1:=(h.zs z hz).2.2 e he
  have h2:=h1.off
  have h3:=h1.save
  have h4:=h1.kind
  have h5:=h1.fmt
  exact⟨by unfold I64;omega,by unfold I64;omega,by unfold I64;omega,by omega⟩
theorem ZwC {x:ByteArray}(h:x∈[ByteArray.empty,(⟨#[83]⟩:ByteArray),⟨#[68]⟩,⟨#[68,84]⟩]):x.size<=100:=by
 have:∀ x∈[ByteArray.empty,(⟨#[83]⟩:ByteArray),⟨#[68]⟩,⟨#[68,84]⟩],x.size<=100:=by decide
 exact this x h
theorem ZwV {f:ByteArray}(h:f∈fmtU):f.size<=100:=by
 have h1:∀ f∈fmtU,f.size<=100:=by decide
 exact h1 f h
theorem Zbm.sm {rs:List Zab}{e:DEra}{first:Bool}(h:Zbm rs e first)(hn:∀ r∈rs,r.name.size<=100):SmE e:=by
 refine⟨?_,ZwV h.fmt,?_,?_,?_⟩
 ·rcases h with⟨_,_,h,_⟩|⟨_,_,h,_⟩|⟨_,_,_,_,_,_,h,_⟩
  ·rw[h];exact Nat.zero_le _
  ·rw[h];exact Nat.zero_le _
  ·obtain⟨_,_,_,⟨r,hr,_⟩,_⟩:=h.saves
   obtain⟨h1,h2⟩:=List.mem_filter.1 hr
   have h3:r.name=e.set:=by simpa using h2
   rw[<- h3]
   exact hn r h1
 ·rcases h with⟨_,_,_,h1,h2,_⟩|⟨_,_,_,h1,h2,_⟩|⟨_,_,_,h1,h2,_⟩ <;> omega
 ·rcases h with⟨_,h1,_⟩|⟨_,h1,_⟩|⟨_,_,h1,_⟩ <;> omega
 ·rcases h with⟨h1,_⟩|⟨h1,_⟩|⟨h1,_⟩ <;> omega
theorem ZyZ:∀ i:Fin 3,(sN i.val).size<=100:=by decide +kernel
theorem Zhy (j:Nat):(ZkR.getD j ByteArray.empty).size<=100:=by
 rcases j with _|_|_|j
 ·decide
 ·decide
 ·decide
 ·exact Nat.zero_le _
theorem ZhG (j:Nat):(ZiD.getD j ByteArray.empty).size<=100:=by
 rcases j with _|_|_|_|j
 ·decide
 ·decide
 ·decide
 ·decide
 ·exact Nat.zero_le _
theorem ZmB (d:DD23):∀ r∈(ZbD d).rules,DrRule r/\r.name.size<=100:=fun r hr=>by
 obtain⟨j,h1,h2⟩:=Zd6 d.sets d.ns r hr
 have hS:=(ZfV d.sets d.ns (ns23 d).2 j h1).1
 have h3:=(ns23 d).2
 exact⟨hS.rule r (List.mem_filter.2 ⟨hr,decide_eq_true h2⟩),h2▸ZyZ ⟨j,by omega⟩⟩
theorem Zki (nz:Nat)(c:Nat->Nat):∀ n,∀ l∈ZjO nz c n,l.target.size<=100/\l.name.size<=100
 | 0,l,h=>by cases h
 | n+1,l,h=>by
  rw[ZjO,List.mem_append,List.mem_singleton]at h
  rcases h with h|rfl
  ·exact Zki nz c n l h
  ·refine⟨?_,ZhG n⟩
   show(Zrp nz (c n)).size<=100
   unfold Zrp
   split
   ·exact Zhy _
   ·exact ZhG _
theorem ZjT:∀ n,∀ z∈ZqR n,z.name.size<=100
 | 0,z,h=>by cases h
 | n+1,z,h=>by
  rw[ZqR,List.mem_append,List.mem_singleton]at h
  rcases h with h|rfl
  ·exact ZjT n z h
  ·exact Zhy n
theorem ZiA (d:DD23):(ZbD d).zones.length=(zl23 d.zones).length:=Zc2 _ _ _
theorem Zmz (d:DD23):(ZbD d).links.length<=4:=by
 show(ZbE (zl23 d.zones).length (d.links.take 4) (d.links.take 4).length).length<=4
 rw[Zeb,List.length_take];omega
theorem Zrk (d:DD23):Sml (ZbD d):=by
 have h1:=Zda d.sets d.ns
 have hm:=(ns23 d).2
 obtain⟨z1,z3⟩:=Ze7 d.zones
 have hb:=ZeA d.ns (zl23 d.zones) _ z3
 refine⟨?_,?_,?_,?_,?_,?_,?_⟩
 ·show(ZaV d.sets d.ns).length<=100
  omega
 ·rw[ZiA];omega
 ·have:=Zmz d;omega
 ·exact Nat.zero_le _
 ·intro r hr
  obtain⟨q1,q2⟩:=ZmB d r hr
  have:=q1.save
  exact⟨q2,ZwC q1.letter,by omega,by omega⟩
 ·intro z hz
  obtain⟨Y,hY⟩:=ZcC d z hz
  have hl:=hY.len
  refine⟨?_,by omega,fun e he=>?_⟩
  ·refine ZjT (zl23 d.zones).length (Zlv z) ?_
   rw[<- hb]
   exact List.mem_map_of_mem hz
  ·obtain⟨k,hk⟩:=List.getElem?_of_mem he
   exact(hY.era k e hk).sm fun r hr=>(ZmB d r hr).2
 ·obtain⟨c,q1,q2⟩:=Zf3 (zl23 d.zones).length z1 z3 (d.links.take 4) (d.links.take 4).length (by rw[List.length_take];omega)
  intro l hl
  refine Zki (zl23 d.zones).length c (d.links.take 4).length l ?_
  rw[<- q2]
  exact hl
def Zzo:ByteArray:=⟨#[69,105,114,101]⟩
def Zma (m:Int)(d:DDay)(sec save:Int):Zab:=⟨Zzo,1972,1048576,m,d,⟨sec,2⟩,save,ByteArray.empty⟩
def sunD (n:Int):DDay:=⟨3,0,n⟩
end Go.Proofs.YtdlmhmmhdbbliaaGreatDoor
