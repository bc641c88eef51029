/- Parts of the proof. -/
import Derived.Test.YtbjomhdhkpgbaaaGreatDoorV13
import Derived.Test.YtbjomhdhkpgbaaaGreatDoorV22
import Derived.Test.YtbjomhdhkpgbaaaGreatDoorV05
set_option maxHeartbeats 4000000
set_option linter.unusedVariables false
set_option linter.unusedSimpArgs false
namespace Go.Proofs.YtbjomhdhkpgbaaaGreatDoor
open Go Go.RowKit Go.Wk
def bz (l:List UInt8):ByteArray:=⟨l.toArray⟩
theorem ZzH {a b:List UInt8}(h:bz a=bz b):a=b:=by
 have:=congrArg (fun x:ByteArray=>x.data.toList) h
 simpa[bz] using this
theorem ZBl (l:List UInt8):(bz l).size=l.length:=by simp[bz,ByteArray.size]
def pz (x:Int × List UInt8):Int × ByteArray:=(x.1,bz x.2)
theorem ZCf {a b:Int × List UInt8}(h:pz a=pz b):a=b:=by
 obtain⟨a1,a2⟩:=a
 obtain⟨b1,b2⟩:=b
 simp only[pz,Prod.mk.injEq]at h
 rw[h.1,ZzH h.2]
theorem ZuY {α β:Type}{f:α->β}(hf:∀ {a b},f a=f b->a=b){x:α}{l:List α}:f x∈l.map f↔x∈l :=
 ⟨fun h=>by obtain⟨y,hy,e⟩:=List.mem_map.1 h;exact hf e▸hy,fun h=>List.mem_map.2 ⟨x,h,rfl⟩⟩
theorem Zg8 {l:List UInt8}(h:Zdi l=true):l.length<=6:=by
 unfold Zdi Zdx at h
 simp only[Bool.and_eq_true,decide_eq_true_eq]at h
 exact h.1.2
theorem ZfD {l:List UInt8}(h:(Zb2 l).isSome=true):l.length<=7:=by
 unfold Zb2 at h
 cases hg:Zgp l [3600,60,1] 0 0 with
 | none=>rw[hg]at h;cases h
 | some o =>
  rw[hg]at h
  dsimp only at h
  by_cases hh:(l.isEmpty=true\/ZaT (if l.head?=some 45 then -o else o)≠l)
  ·rw[if_pos hh]at h;cases h
  ·have:ZaT (if l.head?=some 45 then -o else o)=l:=Decidable.of_not_not fun hn=>hh (.inr hn)
   rw[<- this]
   exact ZiJ _
theorem ZDf {f:List UInt8}(h:ZaP f=1):Zdi f=true:=by
 unfold ZaP at h
 dsimp only at h
 split at h
 ·assumption
 ·repeat' split at h
  all_goals cases h
theorem ZCs {f a b:List UInt8}(h:ZaP f=2)(hc:Zc8 [47] f []=some (a,b)):a.length<=6/\b.length<=6:=by
 unfold ZaP at h
 dsimp only at h
 rw[hc]at h
 dsimp only at h
 split at h
 ·cases h
 ·split at h
  ·rename_i h2
   rw[Bool.and_eq_true]at h2
   exact⟨Zg8 h2.1,Zg8 h2.2⟩
  ·repeat' split at h
   all_goals cases h
theorem ZCr {f:List UInt8}(h:ZaP f=5):((Zb2 f).isSome||(match Zc8 [47] f [] with|some (a,b)=>(Zb2 a).isSome&&(Zb2 b).isSome|none=>false))=true:=by
 unfold ZaP at h
 dsimp only at h
 by_cases c1:Zdi f=true
 ·rw[if_pos c1]at h;omega
 rw[if_neg c1]at h
 cases hc:Zc8 [47] f [] with
 | none =>
  rw[hc]at h
  dsimp only at h ⊢
  rw[if_neg (by decide)]at h
  by_cases c3:(Zcu f).isSome=true
  ·rw[if_pos c3]at h;omega
  rw[if_neg c3]at h
  by_cases c4:f=[37,122]
  ·rw[if_pos c4]at h;omega
  rw[if_neg c4]at h
  by_cases c5:((Zb2 f).isSome||false)=true
  ·exact c5
  ·rw[if_neg c5]at h;omega
 | some x =>
  obtain⟨a,b⟩:=x
  rw[hc]at h
  dsimp only at h ⊢
  by_cases c2:(Zdi a&&Zdi b)=true
  ·rw[if_pos c2]at h;omega
  rw[if_neg c2]at h
  by_cases c3:(Zcu f).isSome=true
  ·rw[if_pos c3]at h;omega
  rw[if_neg c3]at h
  by_cases c4:f=[37,122]
  ·rw[if_pos c4]at h;omega
  rw[if_neg c4]at h
  by_cases c5:((Zb2 f).isSome||(Zb2 a).isSome&&(Zb2 b).isSome)=true
  ·exact c5
  ·rw[if_neg c5]at h;omega
theorem ZsH {f a b:List UInt8}(h:Zbk f=some (a,b)):a.length<=7/\b.length<=7:=by
 unfold Zbk at h
 cases hc:Zc8 [47] f [] with
 | none=>rw[hc]at h;cases h
 | some x =>
  obtain⟨a',b'⟩:=x
  rw[hc]at h
  dsimp only at h
  split at h
  ·rename_i hk
   simp only[Option.some.injEq,Prod.mk.injEq]at h
   obtain⟨rfl,rfl⟩:=h
   have hl:=Zn5 hc
   simp only[List.length_nil]at hl
   rcases hk with hk|hk
   ·have:=ZCs hk hc;omega
   ·have h5:=ZCr hk
    rw[hc]at h5
    dsimp only at h5
    rw[Bool.or_eq_true,Bool.and_eq_true]at h5
    rcases h5 with h5|⟨h5,h6⟩
    ·have:=ZfD h5;omega
    ·have:=ZfD h5
     have:=ZfD h6
     omega
  ·cases h
theorem Zwm (f:List UInt8)(off save:Int)(letter:List UInt8):(ZbO f off save letter).1.length<=7:=by
 unfold ZbO
 cases hp:Zbk f with
 | some x =>
  obtain⟨a,b⟩:=x
  have:=ZsH hp
  dsimp only
  split
  ·exact this.1
  ·exact this.2
 | none =>
  dsimp only
  split
  ·split
   ·split
    ·rename_i hl;have:=Zg8 hl;dsimp only;omega
    ·simp
   ·simp
  ·split
   ·split
    ·exact ZiJ _
    ·simp
   ·split
    ·rename_i hk
     dsimp only
     rcases hk with hk|hk
     ·have:=Zg8 (ZDf hk);omega
     ·have h5:=ZCr hk
      cases hc:Zc8 [47] f [] with
      | none =>
       rw[hc,Bool.or_false]at h5
       exact ZfD h5
      | some x =>
       obtain⟨a,b⟩:=x
       unfold Zbk at hp
       rw[hc]at hp
       dsimp only at hp
       rw[if_pos (.inr hk)]at hp
       cases hp
    ·simp
theorem Zm4 (x:List UInt8):∀ l:List (List UInt8),Zds (l++[x])=Zds l+(x.length+1)
 | []=>by simp[Zds]
 | y::l=>by rw[List.cons_append,Zds,Zds,Zm4 x l];omega
theorem ZqV:∀ l:List (List UInt8),(∀ x∈l,x.length<=7)->Zds l<=8*l.length
 | [],_=>Nat.le_refl _
 | y::l,h=>by
  have h1:=h y List.mem_cons_self
  have h2:=ZqV l fun x hx=>h x (List.mem_cons_of_mem _ hx)
  rw[Zds,List.length_cons]
  omega
structure FewI (lp:List ((Int × ByteArray) × Int))(la:List (ByteArray × Int))(sz:Int)(acc:List (Int × List UInt8) × List (List UInt8))(t:Nat):Prop where
 kp:lp.map (·.1)=acc.1.map pz
 ka:la.map (·.1)=acc.2.map bz
 cp:ZhT lp t
 ca:ZhT la t
 le:acc.2.length<=t
 ls:∀ x∈acc.2,x.length<=7
 sz:sz=Zds acc.2
theorem FewI.nil:FewI [] [] 0 ([],[]) 0:=⟨rfl,rfl,ZhT.nil _,ZhT.nil _,Nat.le_refl _,(fun _ h=>by cases h),rfl⟩
theorem FewI.lim {lp:List ((Int × ByteArray) × Int)}{la:List (ByteArray × Int)}{sz:Int}{acc:List (Int × List UInt8) × List (List UInt8)}{t:Nat}(h:FewI lp la sz acc t):0<=sz/\sz<=8*(t:Int):=by
 have h1:=ZqV _ h.ls
 have h2:=h.le
 rw[h.sz]
 omega
theorem FewI.step {lp:List ((Int × ByteArray) × Int)}{la:List (ByteArray × Int)}{sz:Int}{acc:List (Int × List UInt8) × List (List UInt8)}{t:Nat}(h:FewI lp la sz acc t)(o:Int)(x:List UInt8)(hx:x.length<=7) :
  FewI (cinc (o,bz x) lp) (cinc (bz x) la) (if cget (bz x) la+1=1 then sz+(x.length+1) else sz) (addP (o,x) acc.1,addA x acc.2) (t+1):=by
 have hm:bz x∈la.map (·.1)↔x∈acc.2:=by rw[h.ka];exact ZuY ZzH
 have hp:(o,bz x)∈lp.map (·.1)↔(o,x)∈acc.1:=by rw[h.kp];show pz (o,x)∈List.map pz acc.1↔_;exact ZuY ZCf
 refine⟨?_,?_,h.cp.inc _,h.ca.inc _,?_,?_,?_⟩
 ·rw[Zn9,h.kp]
  unfold addP
  rw[h.kp]at hp
  by_cases hh:(o,x)∈acc.1
  ·rw[if_pos (hp.2 hh),if_pos hh]
  ·rw[if_neg (fun e=>hh (hp.1 e)),if_neg hh,List.map_append];rfl
 ·rw[Zn9,h.ka]
  unfold addA
  rw[h.ka]at hm
  by_cases hh:x∈acc.2
  ·rw[if_pos (hm.2 hh),if_pos hh]
  ·rw[if_neg (fun e=>hh (hm.1 e)),if_neg hh,List.map_append];rfl
 ·unfold addA
  have:=h.le
  split
  ·dsimp only;omega
  ·simp;omega
 ·unfold addA
  intro y hy
  dsimp only at hy
  split at hy
  ·exact h.ls y hy
  ·rcases List.mem_append.1 hy with hy|hy
   ·exact h.ls y hy
   ·rw[List.mem_singleton.1 hy];exact hx
 ·have hn:=h.ca.new (bz x)
  unfold addA
  dsimp only
  by_cases hh:x∈acc.2
  ·rw[if_pos hh,if_neg (fun e=>hn.1 e (hm.2 hh))];exact h.sz
  ·rw[if_neg hh,if_pos (hn.2 fun e=>hh (hm.1 e)),Zm4,h.sz];omega
theorem FewI.few {lp:List ((Int × ByteArray) × Int)}{la:List (ByteArray × Int)}{sz:Int}{acc:List (Int × List UInt8) × List (List UInt8)}{t:Nat}(h:FewI lp la sz acc t) :
  (decide ((lp.length:Int)<=120)&&decide (sz<=250))=(decide (acc.1.length<=120)&&decide (Zds acc.2<=250)):=by
 have h1:=congrArg List.length h.kp
 simp only[List.length_map]at h1
 rw[h1,h.sz]
 congr 1
 ·rw[decide_eq_decide];omega
 ·rw[decide_eq_decide];omega
theorem ZnZ {rs:List Zab}{e:DEra}{b:Bool}(h:Zc2 rs e b=0):∀ x∈ZaE rs e,ZbG e.off x.1=true:=by
 intro x hx
 unfold Zc2 at h
 split at h
 ·cases h
 ·split at h
  ·cases h
  ·split at h
   ·cases h
   ·split at h
    ·cases h
    ·split at h
     ·cases h
     ·rename_i hn
      cases hh:ZbG e.off x.1 with
      | true=>rfl
      | false=>exact absurd (.inr (List.any_eq_true.2 ⟨x,hx,by rw[hh];rfl⟩)) hn
theorem ZjC {rs:List Zab}{l:List DEra}{i:Nat}:∀ (f k:Nat),Zcr rs l i f k=none->∀ j,k<=j->j<k+f->Zc2 rs (l.getD j dE0) (decide (j=0))=0
 | 0,k,_,j,h1,h2=>by omega
 | f+1,k,h,j,h1,h2=>by
  rw[Zcr]at h
  split at h
  ·cases h
  ·rename_i h0
   split at h
   ·cases h
   ·by_cases hj:j=k
    ·rw[hj];exact Decidable.of_not_not h0
    ·exact ZjC f (k+1) h j (by omega) (by omega)
theorem Ztb {rs:List Zab}{l:List DEra}{i:Nat}(h:Zcr rs l i l.length 0=none):∀ e∈l,∀ x∈ZaE rs e,ZbG e.off x.1=true:=by
 intro e he
 obtain⟨j,hj,rfl⟩:=List.mem_iff_getElem.1 he
 have:=ZjC l.length 0 h j (Nat.zero_le _) (by omega)
 rw[List.getD_eq_getElem?_getD,List.getElem?_eq_getElem hj]at this
 exact ZnZ this
attribute [local irreducible] W RL Does Zar Zal retQ Calls Pu Stp RD Qy Ay Zak
def pEnc (x:Int × ByteArray):List Value:=[.int .i64 x.1,.string x.2]
def pkV (x:Int × ByteArray):Value := .agg (pEnc x).toArray
instance : EqE Tryz.prog 227 (Int × ByteArray) pEnc where
 h r s w:=by
  unfold pEnc
  simp[go_sem,Zdl]
  rcases r with⟨_,_⟩
  rcases s with⟨_,_⟩
  simp only[ZkM,Result.ok.injEq,and_true]
  rw[Bool.eq_iff_iff]
  simp
 g:=by kernel_rfl
theorem Znd (k:Int × ByteArray)(w:World):∀ (l:List ((Int × ByteArray) × Int)) (i j:Nat),(Instr.findAsking 227 (pkV k) (cent pkV j l) i).run Tryz.prog w = .ok (Zp2 k l i) w
 | [],_,_=>rfl
 | x::l,i,j=>by
  have h:=EqE.h (P:=Tryz.prog) (t:=227) (enc:=pEnc) k x.1 w
  rw[cent,Instr.findAsking,Zp2]
  simp only[pkV,Op.equal,Op.maxDepth]at h ⊢
  simp only[Sem.run_bind,h,Result.andThen_ok]
  by_cases hk:k=x.1
  ·rw[decide_eq_true hk,if_pos hk];rfl
  ·rw[decide_eq_false hk,if_neg hk]
   have ih:=Znd k w l (i+1) (j+1)
   simp only[pkV]at ih
   simpa using ih
theorem ZuG (b:Bool)(k:Int × ByteArray)(d:Nat)(w:World):(Instr.checkKey b (d+1+1) 227 (.agg (pEnc k).toArray)).run Tryz.prog w = .ok () w:=by
 simp[Instr.checkKey,go_sem,pEnc]
instance : KeyT Tryz.prog 227 (Int × ByteArray) pkV where
 ask k l w:=by
  cases l with
  | nil=>simp[Instr.findKey,go_sem,cent,Instr.findNow,Zp2]
  | cons x l =>
   have h:=Znd k w (x::l) 0 0
   simp only[cent]at h ⊢
   simp[Instr.findKey,go_sem,Instr.findNow,Instr.sameNow,pkV]
   exact h
 chk b k w:=ZuG b k 9998 w
 stay k w:=by simp[Instr.keyThatStays,Instr.sameBits,pkV,pEnc,ZjV]
def toM (l:List (ByteArray × Int)):List (ByteArray × Value):=l.map fun x=>(x.1,Value.int .i64 x.2)
theorem ZoZ (k:ByteArray):∀ l:List (ByteArray × Int),(mget (toM l) k).getD (.int .i64 0) = .int .i64 (cget k l)
 | []=>rfl
 | x::l=>by
  have ih:=ZoZ k l
  unfold toM at ih ⊢
  rw[List.map_cons,mget,cget]
  by_cases h:k=x.1
  ·rw[if_pos h,if_pos h];rfl
  ·rw[if_neg h,if_neg h];exact ih
theorem ZiI (k:ByteArray)(v:Int):∀ l:List (ByteArray × Int),mset (toM l) k (.int .i64 v)=toM (cput k v (cins k l))
 | []=>by simp[toM,mset,cins,cput]
 | x::l=>by
  have ih:=ZiI k v l
  unfold toM at ih ⊢
  rw[List.map_cons,mset,cins]
  by_cases h:k=x.1
  ·rw[if_pos h,if_pos h,cput,if_pos h];rfl
  ·rw[if_neg h,if_neg h,cput,if_neg h,ih];rfl
theorem ZcT {P:Program}{n:Nat}{wr:World}{fr:Fr}{O:List It}{ty:TypeId}{pos:String}{af:Array Edge}{dst:Option Tmp}{g:Option (Nat × Bool)}{Kp:Value->List It->Prop}
  {t kt et b:Nat} {x ix y:Operand} {m m':List (ByteArray × Value)} {k:ByteArray} {v:Value} {O':List It} [hM:MapT P t kt et] [StringT P kt] (hx:ev fr x=some (.map (some b))) (hi:ev fr ix=some (.string k)) (hy:ev fr y=some v) (hm:mset m k v=m')
  (hu:Upd O (.mp b m) (.mp b m') O') (kk:Kp undef O'):Stp P n wr fr O ⟨dst,.mapUpdate t x ix y,ty,pos,af,g⟩ Kp:=Stp_mapUpdate hx hi hy (hm▸hu) kk
theorem ZmW (rs:List Zab)(e:DEra):(ZaE rs e).length<=rs.length+1:=by
 unfold ZaE
 have:=ZiV rs e
 split
 ·simp
 ·split
  ·rw[List.length_map];omega
  ·simp
theorem ZmV {rs:List Zab}{e:DEra}(hr:∀ r∈rs,r.letter.size<=1000000000):∀ x∈ZaE rs e,x.2.size<=1000000000:=by
 intro x hx
 unfold ZaE at hx
 split at hx
 ·simp only[List.mem_singleton]at hx;subst hx;exact Nat.zero_le _
 ·split at hx
  ·obtain⟨r,h,rfl⟩:=List.mem_map.1 hx
   exact hr r (ZgF h)
  ·simp only[List.mem_singleton]at hx;subst hx;exact Nat.zero_le _
structure FwG where
 k:Nat
 lp:List ((Int × ByteArray) × Int)
 la:List (ByteArray × Int)
 sz:Int
 acc:List (Int × List UInt8) × List (List UInt8)
 t:Nat
theorem Zke {G:Prop}(h:G:=by(first|(apply ZaB;rfl;rfl;omega;omega;(intro w' _ hO;exact(Zcb (hO.of (A := .row (.slice A5 S.length c5) 156 2 S.length (S.flatMap Zcy)) (by repeat' constructor)) hg1).1))|(apply ZbZ;rfl;(focus repeat' constructor);exact hgn;rfl)|(apply Zzc (kv:=pkV) (k:=(e.off+x.1,bz ab));rfl;rfl;(focus repeat' constructor);first|exact rfl|exact Zoc _ _)|(apply ZhQ;rfl;rfl;(focus repeat' constructor);first|exact ZoZ _ la|exact hl2)|(apply ZaA;rfl;rfl;exact hb))):G:=h
theorem Zqk {G:Prop}(h:G:=by first|(apply Qy_y;rfl;exact Zke)|exact QyA):G:=h
theorem ZwF {G:Prop}(h:G:=by repeat (first|exact QF.nil|(apply QF.mk;rfl;rfl;decide +kernel;exact Zqk))):G:=h
theorem Zmz {G:Prop}(h:G:=by(first|(apply ZBR (kv:=pkV);rfl;(focus repeat' constructor))|(apply ZeP;rfl;rfl;exact b1))):G:=h
set_option maxHeartbeats 2000000 in
theorem Zwg (Ar Az Al As:Option Addr)(cr cz cl cs:Nat)(a:Zac)(z:ZaO)(Ae:Option Addr)(ce:Nat)(w:World)(hL:LibW w)(hA:Zan w Ar Az Al As cr cz cl cs a)(hE:RdSl w Ae ce DEra.enc 13 z.eras)(hS:ZhN a)(hV:Zml a)(hel:z.eras.length<=1000000)
  (hZ:∀ e∈z.eras,Zxz e) (hH:∀ e∈z.eras,∀ x∈ZaE a.rules e,ZbG e.off x.1=true) :
  Does Tryz.prog 97 [srcV Ar Az Al As cr cz cl cs a,.agg #[.string z.name,.slice Ae z.eras.length ce]] w (fun v O=>v = .bool (Zf9 a.rules z)/\O=[]):=by
 have hn:=hS.nr
 unfold Zf9
 obtain⟨R,hR⟩:∃ R,erGo a.rules z.eras ([],[])=R:=⟨_,rfl⟩
 rw[hR]
 refine Zaa Tryz.func97 rfl rfl rfl rfl ?_
 repeat (first|refine walk ?_|(refine jn ?_;(try intro F);(first|(apply Zwp (t:=225) pkV;intro bk)|(refine bx ?_;intro bk)|(refine stA ?_)|(apply Zag;exact PuA));refine fin ?_)|(apply RD_W;rfl;intro bk))
 rename_i b1 b2 bp
 generalize bk=ba
 refine Zaq [(2,.pointer (some ⟨b1,0,none⟩)),(5,.map (some bp)),(6,.map (some ba)),(17,.slice Ae z.eras.length ce),(18,.int .i64 z.eras.length)] [.blk b1 [.slice Ar a.rules.length cr,.slice Az a.zones.length cz,.slice Al a.links.length cl,.slice As a.shifts.length cs] 117]
  (fun g:FwG=>[(7,.int .i64 g.sz),(19,.int .i64 g.k)]) (fun g=>[cmIt pkV bp g.lp,.mp ba (toM g.la)]) (fun g=>g.k<=z.eras.length/\FewI g.lp g.la g.sz g.acc g.t/\g.t<=g.k*2000000/\erGo a.rules (z.eras.drop g.k) g.acc=R)
  (fun g=>z.eras.length - g.k) ⟨0,[],[],0,([],[]),0⟩ SFA SOA ⟨Nat.zero_le _,FewI.nil,Nat.le_refl _,hR⟩ ?_
 clear hR
 rintro⟨k,lp,la,sz,acc,t⟩ ⟨hk,hI,ht,hi⟩
 dsimp only at hk hI ht hi ⊢
 repeat (first|refine walk ?_|(refine jn ?_;(try intro F);(first|(refine bx ?_;intro bk)|(refine stA ?_)|(apply Zag;exact PuA));refine fin ?_)|(apply RD_W;rfl;intro bk))
 refine Zah rfl (fun hc=>?_) (fun hc=>?_)
 ·simp only[decide_eq_true_eq,Int.ofNat_lt]at hc
  obtain⟨hna,hca⟩:=hE.rd k _ (List.getElem?_eq_getElem hc)
  have hem:=List.getElem_mem hc
  rw[Zao hc,erGo]at hi
  generalize z.eras[k]=e at *
  have hSl:=ZmW a.rules e
  have hlet:=ZmV (e:=e) fun r hr=>(hS.rs r hr).2
  have h64:=ZiO (e:=e) (fun r h=>hV.i64 r h) (hZ e hem).save
  have hss:=fun w' (hw:Bel w.heap.size w w')=>ZiM Ar Az Al As cr cz cl cs a e w' (hA.up hw) hn
  have hZe:=hZ e hem
  have hHe:=hH e hem
  generalize ZaE a.rules e=S at *
  obtain⟨R2,hR2⟩:∃ R2,stGo e S acc=R2:=⟨_,rfl⟩
  rw[hR2]at hi
  simp only[DEra.enc]at hss hca
  repeat (first|(apply RL_pu;rfl;exact PuI)|(apply RD_Q;rfl;rfl;decide +kernel;rfl;rfl;exact QyI)|refine walk1 ?_|(refine jg ?_;(try intro F);(first|(apply Zad (h:=fun w' hw _=>hss w' hw);rfl;rintro v O' ⟨A5,c5,rfl,rfl⟩)|(refine bx ?_;intro bk)|(refine stA ?_));first|refine⟨_,EndsA,QFI,?_⟩|refine fin ?_)|(refine jn ?_;(try intro F);(first|(refine bx ?_;intro bk)|(refine stA ?_)|(apply Zag;first|exact PuI|exact PuA));first|refine⟨_,EndsA,QFI,?_⟩|refine fin ?_)|(apply RD_W;rfl;intro bk))
  generalize bk=b9
  refine Zaq [(2,.pointer (some ⟨b1,0,none⟩)),(5,.map (some bp)),(6,.map (some ba)),(9,.pointer (some ⟨b9,0,none⟩)),(17,.slice Ae z.eras.length ce),(18,.int .i64 z.eras.length),(19,.int .i64 k),(25,.slice A5 S.length c5),(26,.int .i64 S.length)]
   [.blk b1 [.slice Ar a.rules.length cr,.slice Az a.zones.length cz,.slice Al a.links.length cl,.slice As a.shifts.length cs] 117,.blk b9 [.int .i64 e.off,.int .i64 e.kind,.int .i64 e.save,.string e.set,.string e.format,.bool e.til.is,.int .i64 e.til.year,.int .i64 e.til.month,.int .i64 e.til.day.kind,.int .i64 e.til.day.week,.int .i64 e.til.day.day,.int .i64 e.til.at_.sec,.int .i64 e.til.at_.base] 54,.row (.slice A5 S.length c5) 156 2 S.length (S.flatMap Zcy)]
   (fun g:FwG=>[(7,.int .i64 g.sz),(27,.int .i64 g.k)]) (fun g=>[cmIt pkV bp g.lp,.mp ba (toM g.la)]) (fun g=>g.k<=S.length/\FewI g.lp g.la g.sz g.acc g.t/\g.t<=k*2000000+g.k/\stGo e (S.drop g.k) g.acc=R2)
   (fun g=>S.length - g.k) ⟨0,lp,la,sz,acc,t⟩ SFA SOA ⟨Nat.zero_le _,hI,Nat.le_trans ht (Nat.le_add_right _ _),hR2⟩ ?_
  clear hR2 hI ht lp la sz acc t
  rintro⟨j,lp,la,sz,acc,t⟩ ⟨hj,hI,ht,hi2⟩
  dsimp only at hj hI ht hi2 ⊢
  repeat (first|refine walk ?_|(refine jn ?_;(try intro F);(first|(refine bx ?_;intro bk)|(refine stA ?_)|(apply Zag;exact PuA));refine fin ?_)|(apply RD_W;rfl;intro bk))
  refine Zah rfl (fun hc2=>?_) (fun hc2=>?_)
  ·simp only[decide_eq_true_eq,Int.ofNat_lt]at hc2
   have hg1:=ZaK Zcy.len S j _ 0 _ (List.getElem?_eq_getElem hc2) rfl
   have hgn:∀ i v,(Zcy S[j])[i]?=some v->(S.flatMap Zcy)[j*2+i]?=some v:=fun i v hv=>ZaK Zcy.len S j _ i v (List.getElem?_eq_getElem hc2) hv
   have hxm:=List.getElem_mem hc2
   rw[Zao hc2,stGo]at hi2
   generalize S[j]=x at *
   have hfa:=fun w' (hw:Bel w.heap.size w w')=>ZhC e.format x.2 e.off x.1 w' (hL.up hw) hZe.fmt (hlet x hxm) hZe.off (h64 x hxm)
   have hal:=Zwm e.format.data.toList e.off x.1 x.2.data.toList
   have hho:=hHe x hxm
   unfold ZbG at hho
   simp only[Bool.and_eq_true,decide_eq_true_eq]at hho
   obtain⟨hh1,hh2⟩:=hho
   generalize ZbO e.format.data.toList e.off x.1 x.2.data.toList=abr at *
   obtain⟨ab,er⟩:=abr
   dsimp only at hi2 hal
   replace hfa:∀ w',Bel w.heap.size w w'->Does Tryz.prog 80 [.string e.format,.int .i64 e.off,.agg #[.int .i64 x.1,.string x.2]] w' (fun v O=>v = .tuple #[.string (bz ab),.int .i64 er]/\O=[]):=hfa
   simp only[Zcy]at hgn hg1
   have hcp:=hI.cp.get (e.off+x.1,bz ab)
   have hcq:=hI.ca.get (bz ab)
   have hsz:=ZBl ab
   have hlim:=hI.lim
   have hst:=hI.step (e.off+x.1) ab hal
   have hl2:(mget (toM (cput (bz ab) (cget (bz ab) la+1) (cins (bz ab) la))) (bz ab)).getD (.int .i64 0) = .int .i64 (cget (bz ab) la+1):=(ZoZ _ _).trans (by rw[Zob _ _ _ (Zl8 _ _)])
   by_cases hnew:cget (bz ab) la+1=1
   ·rw[if_pos hnew]at hst
    have hb:decide (cget (bz ab) la+1=1)=true:=decide_eq_true hnew
    repeat (first|(apply RL_pu;rfl;exact Zke)|(refine js ?_;(first|(refine Zae hfa ?_)|(apply ZfR (kv:=pkV) (k:=(e.off+x.1,bz ab)) (l:=lp);rfl;rfl;(focus repeat' constructor))|(apply ZfQ (kv:=pkV) (k:=(e.off+x.1,bz ab)) (l:=lp);rfl;rfl;rfl;(focus repeat' constructor))|(apply ZcT;rfl;rfl;rfl;exact ZiI _ _ la;(focus repeat' constructor))|(refine bx ?_;intro bk)))|(apply RD_Q;rfl;rfl;decide +kernel;rfl;rfl;exact Zqk)|refine walk1 ?_|(refine Zdc ?_;intro F;(refine Zae hfa ?_);refine⟨_,EndsA,SubO.right _ _,?_⟩)|(refine RD_Lw ?_;intro F;(first|(refine Zae hfa ?_)|(apply ZfR (kv:=pkV) (k:=(e.off+x.1,bz ab)) (l:=lp);rfl;rfl;(focus repeat' constructor))|(apply ZfQ (kv:=pkV) (k:=(e.off+x.1,bz ab)) (l:=lp);rfl;rfl;rfl;(focus repeat' constructor))|(apply ZcT;rfl;rfl;rfl;exact ZiI _ _ la;(focus repeat' constructor))|(refine bx ?_;intro bk)|(refine stA ?_)|(apply Zag;first|exact Zke|exact PuA));refine⟨_,EndsA,ZwF,?_⟩)|(apply RD_W;rfl;intro bk))
    exact⟨⟨j+1,cinc (e.off+x.1,bz ab) lp,cinc (bz ab) la,sz+(((bz ab).size:Int)+1),_,t+1⟩,OA,⟨OA,by dsimp only;rw[hsz];exact hst,OA,hi2⟩,SFA,SOA⟩
   ·rw[if_neg hnew]at hst
    have hb:decide (cget (bz ab) la+1=1)=false:=decide_eq_false hnew
    repeat (first|(apply RL_pu;rfl;exact Zke)|(refine js ?_;(first|(refine Zae hfa ?_)|(apply ZfR (kv:=pkV) (k:=(e.off+x.1,bz ab)) (l:=lp);rfl;rfl;(focus repeat' constructor))|(apply ZfQ (kv:=pkV) (k:=(e.off+x.1,bz ab)) (l:=lp);rfl;rfl;rfl;(focus repeat' constructor))|(apply ZcT;rfl;rfl;rfl;exact ZiI _ _ la;(focus repeat' constructor))|(refine bx ?_;intro bk)))|(apply RD_Q;rfl;rfl;decide +kernel;rfl;rfl;exact Zqk)|refine walk1 ?_|(refine Zdc ?_;intro F;(refine Zae hfa ?_);refine⟨_,EndsA,SubO.right _ _,?_⟩)|(refine RD_Lw ?_;intro F;(first|(refine Zae hfa ?_)|(apply ZfR (kv:=pkV) (k:=(e.off+x.1,bz ab)) (l:=lp);rfl;rfl;(focus repeat' constructor))|(apply ZfQ (kv:=pkV) (k:=(e.off+x.1,bz ab)) (l:=lp);rfl;rfl;rfl;(focus repeat' constructor))|(apply ZcT;rfl;rfl;rfl;exact ZiI _ _ la;(focus repeat' constructor))|(refine bx ?_;intro bk)|(refine stA ?_)|(apply Zag;first|exact Zke|exact PuA));refine⟨_,EndsA,ZwF,?_⟩)|(apply RD_W;rfl;intro bk))
    exact⟨⟨j+1,cinc (e.off+x.1,bz ab) lp,cinc (bz ab) la,sz,_,t+1⟩,OA,⟨OA,hst,OA,hi2⟩,SFA,SOA⟩
  ·simp only[decide_eq_false_iff_not,Int.ofNat_lt]at hc2
   rw[List.drop_eq_nil_of_le (by omega),stGo]at hi2
   subst hi2
   repeat (first|refine walk ?_|(refine jn ?_;(try intro F);(first|(refine bx ?_;intro bk)|(refine stA ?_)|(apply Zag;exact PuA));refine fin ?_)|(apply RD_W;rfl;intro bk))
   exact⟨⟨k+1,lp,la,sz,acc,t⟩,OA,⟨OA,hI,OA,hi⟩,SFA,SOA⟩
 ·simp only[decide_eq_false_iff_not,Int.ofNat_lt]at hc
  rw[List.drop_eq_nil_of_le (by omega),erGo]at hi
  subst hi
  rw[<- hI.few]
  by_cases h120:(lp.length:Int)<=120
  ·have b1:decide ((lp.length:Int)<=120)=true:=decide_eq_true h120
   rw[b1]
   repeat (first|(apply RL_pu;rfl;exact Zmz)|(apply RD_Q;rfl;rfl;decide +kernel;rfl;rfl;exact QyFewB1)|refine walk1 ?_|(refine jn ?_;(try intro F);(first|(refine bx ?_;intro bk)|(refine stA ?_)|(apply Zag;first|exact Zmz|exact PuA));first|refine⟨_,EndsA,QFFewB1,?_⟩|refine fin ?_)|(apply RD_W;rfl;intro bk))
   exact rtA
  ·have b1:decide ((lp.length:Int)<=120)=false:=decide_eq_false h120
   rw[b1]
   repeat (first|refine und ?_|(apply RL_pu;rfl;exact Zmz)|(apply RD_Q;rfl;rfl;decide +kernel;rfl;rfl;exact QyFewB1)|refine walk1 ?_|(refine jn ?_;(try intro F);(first|(refine bx ?_;intro bk)|(refine stA ?_)|(apply Zag;first|exact Zmz|exact PuA));first|refine⟨_,EndsA,QFFewB1,?_⟩|refine fin ?_)|(apply RD_W;rfl;intro bk))
   exact rtA
structure ZnG where
 k:Nat
 p:Int
theorem Zxo {G:Prop}(h:G:=by(first|exact PuI|(apply ZaA;rfl;rfl;exact hb))):G:=h
theorem Zxn {G:Prop}(h:G:=by(first|exact PuI|(apply ZaA;rfl;rfl;exact hbk))):G:=h
theorem Zxm {G:Prop}(h:G:=by(first|exact Zxn|(apply ZaH;rfl;rfl;exact hb2))):G:=h
set_option maxHeartbeats 2000000 in
theorem Zqb (Ar Az Al As:Option Addr)(cr cz cl cs:Nat)(a:Zac)(w:World)(hL:LibW w)(hG:Glob w)(hA:Zan w Ar Az Al As cr cz cl cs a)(hS:ZhN a)(hV:Zml a)(hZ:∀ z∈a.zones,∀ e∈z.eras,Zxz e) :
  Does Tryz.prog 54 [srcV Ar Az Al As cr cz cl cs a] w (fun v O=>v=ptV (ZbI a.rules a.zones 0)/\O=[]):=by
 have hnz:=hS.nz
 obtain⟨res,hres⟩:∃ res,ZbI a.rules a.zones 0=res:=⟨_,rfl⟩
 rw[hres]
 refine Zaa Tryz.func54 rfl rfl rfl rfl ?_
 repeat (first|(refine js ?_;(refine bx ?_;intro bk))|refine walk ?_)
 rename_i b1
 obtain⟨b2,hb2⟩:∃ b2,bk=b2:=⟨_,rfl⟩
 rw[hb2]
 clear hb2 bk
 refine Zaq [(1,.pointer (some ⟨b1,0,none⟩)),(2,.pointer (some ⟨b2,0,none⟩)),(13,.slice Az a.zones.length cz),(14,.int .i64 a.zones.length)] [.blk b2 [.int .i64 0,.int .i64 0,.int .i64 0] 36,.blk b1 [.slice Ar a.rules.length cr,.slice Az a.zones.length cz,.slice Al a.links.length cl,.slice As a.shifts.length cs] 117]
  (fun k:Nat=>[(15,.int .i64 k)]) (fun _=>[]) (fun k=>k<=a.zones.length/\ZbI a.rules (a.zones.drop k) k=res) (fun k=>a.zones.length - k) 0 SFA SOA ⟨Nat.zero_le _,hres⟩ ?_
 clear hres
 rintro i ⟨hil,hi⟩
 repeat (first|(refine js ?_;(refine bx ?_;intro bk))|refine walk ?_)
 refine Zah rfl (fun hc=>?_) (fun hc=>?_)
 ·simp only[decide_eq_true_eq,Int.ofNat_lt]at hc
  obtain⟨hna,cs1,⟨Ae,ce,hEz,rfl⟩,hca⟩:=hA.z i _ (List.getElem?_eq_getElem hc)
  have hmem:=List.getElem_mem hc
  rw[Zao hc,ZbI]at hi
  generalize a.zones[i]=z at *
  have hel:=(hS.zs z hmem).2.1
  by_cases hz0:z.eras=[]
  ·rw[if_pos hz0]at hi
   subst hi
   have hb:decide ((z.eras.length:Int)=0)=true:=by rw[hz0];rfl
   simp only[ptV,plV,Zas.enc]
   repeat (first|(apply RL_pu;rfl;exact Zxo)|(refine js ?_;(refine bx ?_;intro bk))|refine walk1 ?_)
   exact rtC
  have hb:decide ((z.eras.length:Int)=0)=false:=decide_eq_false (fun h=>hz0 (List.eq_nil_of_length_eq_zero (by omega)))
  rw[if_neg hz0]at hi
  obtain⟨r2,hr2⟩:∃ r2,Zcr a.rules z.eras i z.eras.length 0=r2:=⟨_,rfl⟩
  rw[hr2]at hi
  have hfw:r2=none->∀ w',Bel w.heap.size w w'->Does Tryz.prog 97 [srcV Ar Az Al As cr cz cl cs a,.agg #[.string z.name,.slice Ae z.eras.length ce]] w' (fun v O=>v = .bool (Zf9 a.rules z)/\O=[]):=fun hn w' hw =>
   Zwg Ar Az Al As cr cz cl cs a z Ae ce w' (hL.up hw) (hA.up hw) (hEz.up hw) hS hV hel (fun e he=>hZ z hmem e he) (Ztb (hr2.trans hn))
  generalize Zf9 a.rules z=fw at *
  repeat (first|(apply RL_pu;rfl;exact Zxo)|(refine js ?_;(refine bx ?_;intro bk))|refine walk1 ?_)
  rename_i b5
  obtain⟨b6,hb6⟩:∃ b6,bk=b6:=⟨_,rfl⟩
  rw[hb6]
  clear hb6 bk
  refine Zaq [(1,.pointer (some ⟨b1,0,none⟩)),(2,.pointer (some ⟨b2,0,none⟩)),(4,.int .i64 i),(5,.pointer (some ⟨b5,0,none⟩)),(6,.pointer (some ⟨b6,0,none⟩)),(13,.slice Az a.zones.length cz),(14,.int .i64 a.zones.length),(15,.int .i64 i),(28,.slice Ae z.eras.length ce),(29,.int .i64 z.eras.length)] [.blk b5 [.string z.name,.slice Ae z.eras.length ce] 46,.blk b2 [.int .i64 0,.int .i64 0,.int .i64 0] 36,.blk b1 [.slice Ar a.rules.length cr,.slice Az a.zones.length cz,.slice Al a.links.length cl,.slice As a.shifts.length cs] 117]
   (fun g:ZnG=>[(30,.int .i64 g.k)]) (fun g=>[.blk b6 [.int .i64 2,.int .i64 i,.int .i64 g.p] 36]) (fun g=>g.k<=z.eras.length/\Zcr a.rules z.eras i (z.eras.length - g.k) g.k=r2) (fun g=>z.eras.length - g.k) ⟨0,0⟩ SFA SOA ⟨Nat.zero_le _,hr2⟩ ?_
  clear hr2
  rintro⟨k,p⟩ ⟨hkl,hi2⟩
  dsimp only at hkl hi2 ⊢
  repeat (first|(refine js ?_;(refine bx ?_;intro bk))|refine walk ?_)
  refine Zah rfl (fun hc2=>?_) (fun hc2=>?_)
  ·simp only[decide_eq_true_eq,Int.ofNat_lt]at hc2
   clear hna hca
   obtain⟨hna,hca⟩:=hEz.rd k _ (List.getElem?_eq_getElem hc2)
   have hem:=List.getElem_mem hc2
   have hgd:z.eras.getD k dE0=z.eras[k]:=by rw[List.getD_eq_getElem?_getD,List.getElem?_eq_getElem hc2];rfl
   obtain⟨f,hf⟩:∃ f,z.eras.length - k=f+1:=⟨z.eras.length - k - 1,by omega⟩
   rw[hf,Zcr,hgd]at hi2
   generalize z.eras[k]=e at *
   have hbk:decide ((k:Int)=0)=decide (k=0):=by rw[decide_eq_decide];omega
   generalize decide (k=0)=fst at *
   have her:=fun w' (hw:Bel w.heap.size w w')=>Zva Ar Az Al As cr cz cl cs a e fst w' (hL.up hw) (hA.up hw) hS hV (hZ z hmem e hem)
   have hen:=fun w' (hw:Bel w.heap.size w w')=>Zvb Ar Az Al As cr cz cl cs a Ae ce z.eras k w' (hG.up hw) (hA.up hw) hS hV (hEz.up hw) hel hc2
   generalize Zc2 a.rules e fst=ec at *
   generalize Zga a.rules z.eras k=nc at *
   obtain⟨off,kind,save,set,format,⟨is,year,month,⟨dk,dw,dd⟩,⟨us,ub⟩⟩⟩:=e
   simp only[DEra.enc]at her hca
   by_cases h1:ec=0
   ·rw[if_neg (fun h=>h h1)]at hi2
    subst h1
    by_cases h2:nc=0
    ·rw[if_neg (fun h=>h h2)]at hi2
     subst h2
     repeat (first|(apply RL_pu;rfl;exact Zxn)|(refine js ?_;(first|(refine Zae her ?_)|(refine Zae hen ?_)|(refine bx ?_;intro bk)))|refine walk1 ?_)
     exact⟨⟨k+1,k⟩,OA,⟨OA,by dsimp only;rw[show z.eras.length - (k+1)=f by omega];exact hi2⟩,SFA,SOA⟩
    ·rw[if_pos h2]at hi2
     subst hi2
     dsimp only at hi
     subst hi
     have hb2:(!decide (nc=0))=true:=by rw[decide_eq_false h2];rfl
     simp only[ptV,plV,Zas.enc]
     repeat (first|(apply RL_pu;rfl;exact Zxm)|(refine js ?_;(first|(refine Zae her ?_)|(refine Zae hen ?_)|(refine bx ?_;intro bk)))|refine walk1 ?_)
     exact rtC
   ·rw[if_pos h1]at hi2
    subst hi2
    dsimp only at hi
    subst hi
    have hb2:(!decide (ec=0))=true:=by rw[decide_eq_false h1];rfl
    simp only[ptV,plV,Zas.enc]
    repeat (first|(apply RL_pu;rfl;exact Zxm)|(refine js ?_;(first|(refine Zae her ?_)|(refine bx ?_;intro bk)))|refine walk1 ?_)
    exact rtC
  ·simp only[decide_eq_false_iff_not,Int.ofNat_lt]at hc2
   rw[show z.eras.length - k=0 by omega,Zcr]at hi2
   subst hi2
   replace hfw:=hfw rfl
   dsimp only at hi
   cases fw with
   | false =>
    rw[if_pos rfl]at hi
    subst hi
    simp only[ptV,plV,Zas.enc]
    repeat (first|(refine js ?_;(first|(refine Zae hfw ?_)|(refine bx ?_;intro bk)))|refine walk ?_)
    exact rtC
   | true =>
    rw[if_neg (by decide)]at hi
    repeat (first|(refine js ?_;(first|(refine Zae hfw ?_)|(refine bx ?_;intro bk)))|refine walk ?_)
    exact⟨i+1,OA,⟨OA,hi⟩,SFA,SOA⟩
 ·simp only[decide_eq_false_iff_not,Int.ofNat_lt]at hc
  rw[List.drop_eq_nil_of_le (by omega),ZbI]at hi
  subst hi
  repeat (first|(refine js ?_;(refine bx ?_;intro bk))|refine walk ?_)
  exact rtC
attribute [local irreducible] RW
theorem Zm3 {s:Zac}{p:Zas}{e:Int}(h:ZeT s=some (p,e)):e≠0:=by
 unfold ZeT at h
 repeat' split at h
 all_goals first|(simp only[Option.some.injEq,Prod.mk.injEq]at h;omega)|cases h
theorem Zpc {rs:List Zab}{x:ByteArray}{i:Nat}{e:Int}(h:Zco rs x=some (i,e)):e≠0:=by
 unfold Zco at h
 split at h
 ·simp only[Option.some.injEq,Prod.mk.injEq]at h;omega
 ·split at h
  ·rename_i h2
   simp only[Option.some.injEq]at h
   rw[h]at h2
   exact h2
  ·split at h
   ·simp only[Option.some.injEq,Prod.mk.injEq]at h;omega
   ·cases h
theorem ZiU (rs:List Zab):∀ (l:List ByteArray) {p:Zas} {e:Int},Zd8 rs l=some (p,e)->e≠0
 | [],_,_,h=>by cases h
 | x::l,p,e,h=>by
  rw[Zd8]at h
  split at h
  ·rename_i i e2 h2
   simp only[Option.some.injEq,Prod.mk.injEq]at h
   rw[<- h.2]
   exact Zpc h2
  ·exact ZiU rs l h
theorem Zgm (s:Zac):∀ (l seen:List ByteArray) (i:Nat) {p:Zas} {e:Int},Zbw s l seen i=some (p,e)->e≠0
 | [],_,_,_,_,h=>by cases h
 | x::l,seen,i,p,e,h=>by
  rw[Zbw]at h
  split at h
  ·simp only[Option.some.injEq,Prod.mk.injEq]at h;omega
  ·split at h
   ·simp only[Option.some.injEq,Prod.mk.injEq]at h;omega
   ·split at h
    ·simp only[Option.some.injEq,Prod.mk.injEq]at h;omega
    ·exact Zgm s l _ _ h
theorem Zh3 (s:Zac):∀ (l:List Zbl) (i:Nat) {p:Zas} {e:Int},ZbA s l i=some (p,e)->e≠0
 | [],_,_,_,h=>by cases h
 | x::l,i,p,e,h=>by
  rw[ZbA]at h
  repeat' split at h
  all_goals first|(simp only[Option.some.injEq,Prod.mk.injEq]at h;omega)|exact Zh3 s l _ h
theorem Zh1 (s:Zac):∀ (l:List Zbl) (i:Nat) {p:Zas} {e:Int},Zbz s l i=some (p,e)->e≠0
 | [],_,_,_,h=>by cases h
 | x::l,i,p,e,h=>by
  rw[Zbz]at h
  split at h
  ·simp only[Option.some.injEq,Prod.mk.injEq]at h;omega
  ·exact Zh1 s l _ h
theorem ZnC {s:Zac}{p:Zas}{e:Int}(h:Zda s=some (p,e)):e≠0:=by
 unfold Zda at h
 cases h1:Zbg s s.zones 0 with
 | some x=>rw[h1]at h;simp only[Option.some_or,Option.some.injEq]at h;subst h;exact Ze2 s _ _ _ _ h1
 | none =>
  rw[h1,Option.none_or]at h
  cases h2:ZbA s s.links 0 with
  | some x=>rw[h2]at h;simp only[Option.some_or,Option.some.injEq]at h;subst h;exact Zh3 s _ _ h2
  | none =>
   rw[h2,Option.none_or]at h
   exact Zh1 s _ _ h
theorem ZnY (rs:List Zab)(l:List DEra)(i:Nat):∀ (f k:Nat) {p:Zas} {e:Int},Zcr rs l i f k=some (p,e)->e≠0
 | 0,_,_,_,h=>by cases h
 | f+1,k,p,e,h=>by
  rw[Zcr]at h
  split at h
  ·rename_i h2;simp only[Option.some.injEq,Prod.mk.injEq]at h;rw[<- h.2];exact h2
  ·split at h
   ·rename_i h2;simp only[Option.some.injEq,Prod.mk.injEq]at h;rw[<- h.2];exact h2
   ·exact ZnY rs l i f _ h
theorem Zhm (rs:List Zab):∀ (l:List ZaO) (i:Nat) {p:Zas} {e:Int},ZbI rs l i=some (p,e)->e≠0
 | [],_,_,_,h=>by cases h
 | z::l,i,p,e,h=>by
  rw[ZbI]at h
  split at h
  ·simp only[Option.some.injEq,Prod.mk.injEq]at h;omega
  ·split at h
   ·rename_i x h2
    simp only[Option.some.injEq]at h
    subst h
    exact ZnY rs _ _ _ _ h2
   ·split at h
    ·simp only[Option.some.injEq,Prod.mk.injEq]at h;omega
    ·exact Zhm rs l _ h
instance : ZeroT Tryz.prog 118 [.nilFunc]:=⟨by kernel_rfl⟩
theorem Zkg {G:Prop}(h:G:=by(first|(apply Zj6;rfl;(focus repeat' constructor);rfl)|(apply ZaH;rfl;rfl;exact hb))):G:=h
theorem Zkf {G:Prop}(h:G:=by(apply Zj6;rfl;(focus repeat' constructor);rfl)):G:=h
set_option maxHeartbeats 2000000 in
theorem Zmh (Ar Az Al As:Option Addr)(cr cz cl cs:Nat)(a:Zac)(w:World)(hL:LibW w)(hG:Glob w)(hA:Zan w Ar Az Al As cr cz cl cs a)(hS:ZhN a)(hV:SavI a)(hZ:∀ z∈a.zones,∀ e∈z.eras,Zxz e) :
  Does Tryz.prog 27 [srcV Ar Az Al As cr cz cl cs a] w (fun v O=>v=ptV (accD a)/\O=[]):=by
 have h1:∀ w',Bel w.heap.size w w'->Does Tryz.prog 50 ([srcV Ar Az Al As cr cz cl cs a]++[]++[]) w' (fun v O=>v=ptV (ZeT a)/\O=[]):=fun w' hw=>Zsw Ar Az Al As cr cz cl cs a w' (hA.up hw) hS.nz
 have h2:∀ w',Bel w.heap.size w w'->Does Tryz.prog 51 ([srcV Ar Az Al As cr cz cl cs a]++[]++[]) w' (fun v O=>v=ptV (Zih a)/\O=[]):=fun w' hw=>ZsQ Ar Az Al As cr cz cl cs a w' (hG.up hw) (hA.up hw) hS hV
 have h3:∀ w',Bel w.heap.size w w'->Does Tryz.prog 52 ([srcV Ar Az Al As cr cz cl cs a]++[]++[]) w' (fun v O=>v=ptV (Zbw a a.shifts [] 0)/\O=[]):=fun w' hw=>Znz Ar Az Al As cr cz cl cs a w' (hA.up hw) hS
 have h4:∀ w',Bel w.heap.size w w'->Does Tryz.prog 53 ([srcV Ar Az Al As cr cz cl cs a]++[]++[]) w' (fun v O=>v=ptV (Zda a)/\O=[]):=fun w' hw=>ZpB Ar Az Al As cr cz cl cs a w' (hA.up hw) hS
 have h5:Zih a=none->∀ w',Bel w.heap.size w w'->Does Tryz.prog 54 ([srcV Ar Az Al As cr cz cl cs a]++[]++[]) w' (fun v O=>v=ptV (ZbI a.rules a.zones 0)/\O=[]):=fun hs w' hw=>Zqb Ar Az Al As cr cz cl cs a w' (hL.up hw) (hG.up hw) (hA.up hw) hS (Zup hs) hZ
 have n1:=fun{p e} => @Zm3 a p e
 have n2:∀ {p e},Zih a=some (p,e)->e≠0:=fun h=>ZiU a.rules _ h
 have n3:∀ {p e},Zbw a a.shifts [] 0=some (p,e)->e≠0:=fun h=>Zgm a _ _ _ h
 have n4:=fun{p e} => @ZnC a p e
 have n5:∀ {p e},ZbI a.rules a.zones 0=some (p,e)->e≠0:=fun h=>Zhm a.rules _ _ h
 unfold accD
 generalize ZeT a=o1 at *
 generalize Zih a=o2 at *
 generalize Zbw a a.shifts [] 0=o3 at *
 generalize Zda a=o4 at *
 generalize ZbI a.rules a.zones 0=o5 at *
 refine Zaa Tryz.func27 rfl rfl rfl rfl ?_
 repeat (first|(refine js ?_;(refine bx ?_;intro bk))|refine Zkj ?_)
 refine W_block (Ziy 6 (ZbY ?_))
 cases o1 with
 | some x =>
  obtain⟨⟨p1,p2,p3⟩,e⟩:=x
  have hb:(!decide (e=0))=true:=by rw[decide_eq_false (n1 rfl)];rfl
  simp only[Option.some_or,ptV,plV,Zas.enc]at h1 ⊢
  repeat (first|(apply RL_pu;rfl;exact Zkg)|(refine js ?_;(first|(refine Zeh (fun w' hw _=>h1 w' hw) ?_)|(refine bx ?_;intro bk)))|refine walk1 ?_)
  exact rtC
 | none =>
 simp only[ptV,plV,Zas.enc]at h1
 rw[Option.none_or]
 repeat (first|(apply RL_pu;rfl;exact Zkf)|(refine js ?_;(first|(refine Zeh (fun w' hw _=>h1 w' hw) ?_)|(refine bx ?_;intro bk)))|refine walk1 ?_)
 refine ZbY ?_
 cases o2 with
 | some x =>
  obtain⟨⟨p1,p2,p3⟩,e⟩:=x
  have hb:(!decide (e=0))=true:=by rw[decide_eq_false (n2 rfl)];rfl
  simp only[Option.some_or,ptV,plV,Zas.enc]at h2 ⊢
  repeat (first|(apply RL_pu;rfl;exact Zkg)|(refine js ?_;(first|(refine Zeh (fun w' hw _=>h2 w' hw) ?_)|(refine bx ?_;intro bk)))|refine walk1 ?_)
  exact rtC
 | none =>
 replace h5:=h5 rfl
 simp only[ptV,plV,Zas.enc]at h2
 rw[Option.none_or]
 repeat (first|(apply RL_pu;rfl;exact Zkf)|(refine js ?_;(first|(refine Zeh (fun w' hw _=>h2 w' hw) ?_)|(refine bx ?_;intro bk)))|refine walk1 ?_)
 refine ZbY ?_
 cases o3 with
 | some x =>
  obtain⟨⟨p1,p2,p3⟩,e⟩:=x
  have hb:(!decide (e=0))=true:=by rw[decide_eq_false (n3 rfl)];rfl
  simp only[Option.some_or,ptV,plV,Zas.enc]at h3 ⊢
  repeat (first|(apply RL_pu;rfl;exact Zkg)|(refine js ?_;(first|(refine Zeh (fun w' hw _=>h3 w' hw) ?_)|(refine bx ?_;intro bk)))|refine walk1 ?_)
  exact rtC
 | none =>
 simp only[ptV,plV,Zas.enc]at h3
 rw[Option.none_or]
 repeat (first|(apply RL_pu;rfl;exact Zkf)|(refine js ?_;(first|(refine Zeh (fun w' hw _=>h3 w' hw) ?_)|(refine bx ?_;intro bk)))|refine walk1 ?_)
 refine ZbY ?_
 cases o4 with
 | some x =>
  obtain⟨⟨p1,p2,p3⟩,e⟩:=x
  have hb:(!decide (e=0))=true:=by rw[decide_eq_false (n4 rfl)];rfl
  simp only[Option.some_or,ptV,plV,Zas.enc]at h4 ⊢
  repeat (first|(apply RL_pu;rfl;exact Zkg)|(refine js ?_;(first|(refine Zeh (fun w' hw _=>h4 w' hw) ?_)|(refine bx ?_;intro bk)))|refine walk1 ?_)
  exact rtC
 | none =>
 simp only[ptV,plV,Zas.enc]at h4
 rw[Option.none_or]
 repeat (first|(apply RL_pu;rfl;exact Zkf)|(refine js ?_;(first|(refine Zeh (fun w' hw _=>h4 w' hw) ?_)|(refine bx ?_;intro bk)))|refine walk1 ?_)
 refine ZbY ?_
 cases o5 with
 | some x =>
  obtain⟨⟨p1,p2,p3⟩,e⟩:=x
  have hb:(!decide (e=0))=true:=by rw[decide_eq_false (n5 rfl)];rfl
  simp only[ptV,plV,Zas.enc]at h5 ⊢
  repeat (first|(apply RL_pu;rfl;exact Zkg)|(refine js ?_;(first|(refine Zeh (fun w' hw _=>h5 w' hw) ?_)|(refine bx ?_;intro bk)))|refine walk1 ?_)
  exact rtC
 | none =>
 simp only[ptV,plV,Zas.enc]at h5 ⊢
 repeat (first|(apply RL_pu;rfl;exact Zkf)|(refine js ?_;(first|(refine Zeh (fun w' hw _=>h5 w' hw) ?_)|(refine bx ?_;intro bk)))|refine walk1 ?_)
 refine ZbY ?_
 repeat (first|(refine js ?_;(refine bx ?_;intro bk))|refine walk ?_)
 exact rtC
end Go.Proofs.YtbjomhdhkpgbaaaGreatDoor
namespace Go.Proofs.YtbjomhdhkpgbaaaGreatDoor
open Go Go.RowKit Go.Wk
attribute [local irreducible] W RL Does Zar Zal retQ Calls Pu Stp RD Qy Ay Zak
theorem ZnO (A:Option Addr)(c:Nat)(l:List DEra)(f:FuncId)[Body Tryz.prog f](us cs:List Value)(p:DEra->Bool)(w:World)(hA:RdSl w A c DEra.enc 13 l)
  (hf:∀ r∈l,∀ w',Bel w.heap.size w w'->Does Tryz.prog f (us++[.agg (DEra.enc r).toArray]++cs) w' (fun v O=>v = .bool (p r)/\O=[])) :
  Does Tryz.prog 60 [.slice A l.length c,.func (.func f) us.toArray cs.toArray] w (fun v O=>v = .int .i64 (ZbQ p l 0)/\O=[]):=by
 have hs1:=hA.le
 have hs2:=hA.cap
 unfold maxLen at hs2
 generalize hres:ZbQ p l 0=res
 refine Zaa Tryz.func60 rfl rfl rfl rfl ?_
 repeat (first|refine walk ?_)
 refine Zaq [(0,_),(1,_),(4,_),(7,_)] _ (fun k:Nat=>[(8,.int .i64 k)]) (fun _=>[]) (fun k=>k<=l.length/\ZbQ p (l.drop k) k=res) (fun k=>l.length - k) 0 ⟨rfl,rfl,rfl,rfl,rfl,trivial⟩ (.refl _) ⟨by omega,by simpa using hres⟩ ?_
 rintro k ⟨hk,hi⟩
 repeat (first|refine walk ?_)
 refine Zah rfl (fun hc=>?_) (fun hc=>?_)
 ·simp only[decide_eq_true_eq,Int.ofNat_lt]at hc
  obtain⟨hna,hca⟩:=hA.rd k _ (List.getElem?_eq_getElem hc)
  have hnb:=hna
  have hcb:=hca
  rw[Zao hc,ZbQ]at hi
  have hrm:=List.getElem_mem hc
  generalize l[k]=r at *
  repeat (first|(apply RL_pu;rfl;exact PuI)|(refine js ?_;(refine Zeh (fun w' hw _=>hf r hrm w' hw) ?_))|refine walk1 ?_)
  refine Zah rfl (fun h3=>?_) (fun h3=>?_)
  ·repeat (first|refine walk ?_)
   rw[if_pos h3]at hi
   exact ret_1 _ [] (.tmp rfl) .nil ⟨by rw[<- hi],rfl⟩
  repeat (first|refine walk ?_)
  rw[h3]at hi
  exact⟨k+1,by omega,⟨by omega,hi⟩,SFA,SOA⟩
 simp only[decide_eq_false_iff_not,Int.ofNat_lt]at hc
 repeat (first|refine walk ?_)
 exact ret_1 _ [] (.tmp rfl) .nil ⟨by rw[<- hi,List.drop_eq_nil_of_le (by omega)];rfl,rfl⟩
theorem ZtU (r:Zab)(ad:Addr)(a1:Bool)(w:World)(h:w.cell? (ad.add 1)=some (.bool a1)):Does Tryz.prog 57 [.agg (Zab.enc r).toArray,.pointer (some ad)] w (fun v O=>v = .bool (decide (r.save<0)&&!a1)/\O=[]):=by
 obtain⟨nm,fr,to,mo,⟨dk,dw,dd⟩,⟨us,ub⟩,sv,le⟩:=r
 show Does _ _ [.agg #[.string nm,.int .i64 fr,.int .i64 to,.int .i64 mo,.int .i64 dk,.int .i64 dw,.int .i64 dd,.int .i64 us,.int .i64 ub,.int .i64 sv,.string le],.pointer (some ad)] w _
 refine Zaa Tryz.func57 rfl rfl rfl rfl ?_
 repeat' (first|(apply RL_pu;rfl;(apply Pu_loadO1;rfl;exact h))|(refine js ?_;(refine bx ?_;intro bk))|refine walk1 ?_|refine und ?_|(refine Zax rfl rfl rfl (fun hc=>?_) (fun hc=>?_))|(refine Zaw rfl rfl rfl (fun hc=>?_) (fun hc=>?_))|(refine Zah rfl (fun hc=>?_) (fun hc=>?_)))
 all_goals exact clo1
theorem ZtT (e:DEra)(ad:Addr)(a2 a3:Bool)(w:World)(hL:LibW w)(hf:e.format.size<=1000000000)(h2:w.cell? (ad.add 2)=some (.bool a2))(h3:w.cell? (ad.add 3)=some (.bool a3)) :
  Does Tryz.prog 58 [.agg (DEra.enc e).toArray,.pointer (some ad)] w (fun v O=>v = .bool ((decide (ZaP e.format.data.toList=4)&&!a2)||(decide (ZaP e.format.data.toList=5)&&!a3))/\O=[]):=by
 have hk:=fun w' (hw:Bel w.heap.size w w')=>Zfo e.format w' (hL.up hw) hf
 obtain⟨off,kind,save,set,format,til⟩:=e
 dsimp only at hk hf ⊢
 generalize ZaP format.data.toList=K at *
 obtain⟨k4,e4⟩:∃ b,decide (K=4)=b:=⟨_,rfl⟩
 obtain⟨k5,e5⟩:∃ b,decide (K=5)=b:=⟨_,rfl⟩
 rw[e4,e5]
 simp only[DEra.enc]
 refine Zaa Tryz.func58 rfl rfl rfl rfl ?_
 repeat' (first|(apply RL_pu;rfl;(first|(apply Pu_loadO1;rfl;exact h2)|(apply Pu_loadO1;rfl;exact h3)|(apply ZaA;rfl;rfl;exact e4)|(apply ZaA;rfl;rfl;exact e5)))|(refine js ?_;(first|(refine Zae hk ?_)|(refine bx ?_;intro bk)))|refine walk1 ?_|refine und ?_|(refine Zax rfl rfl rfl (fun hc=>?_) (fun hc=>?_))|(refine Zaw rfl rfl rfl (fun hc=>?_) (fun hc=>?_))|(refine Zah rfl (fun hc=>?_) (fun hc=>?_)))
 all_goals exact clo1
def vRow (f:Nat):List Value:=(Zlx.drop (f*5)).take 5
theorem ZtR {w:World}(hG:Glob w)(f:Nat):Zam w ((⟨1,0,none⟩:Addr).add (f*5)) (vRow f):=fun j v hj=>by
 rw[Zbe]
 refine hG.var (f*5+j) v ?_
 unfold vRow at hj
 rw[List.getElem?_take]at hj
 split at hj
 ·rwa[List.getElem?_drop]at hj
 ·cases hj
theorem Zqu {G:Prop}(h:G:=by(first|(apply Zbs;rfl;rfl;omega;omega)|(apply Pu_loadON;rfl;exact hcv;rfl))):G:=h
theorem of_1 (w:World)(hG:Glob w):Does Tryz.prog 55 [.int .i64 1] w (fun v O=>v = .tuple #[.agg (vRow 1).toArray,.bool true]/\O=[]):=by
 have hcv:=ZtR hG 1
 rw[show vRow 1=[.string ⟨#[118,97,110,103,117,97,114,100]⟩,.bool true,.bool true,.bool false,.bool false] from rfl]at hcv ⊢
 refine Zaa Tryz.func55 rfl rfl rfl rfl ?_
 repeat (first|(apply RL_pu;rfl;exact Zqu)|(refine js ?_;(refine bx ?_;intro bk))|refine walk1 ?_)
 exact rtC
theorem of_2 (w:World)(hG:Glob w):Does Tryz.prog 55 [.int .i64 2] w (fun v O=>v = .tuple #[.agg (vRow 2).toArray,.bool true]/\O=[]):=by
 have hcv:=ZtR hG 2
 rw[show vRow 2=[.string ⟨#[109,97,105,110]⟩,.bool true,.bool false,.bool true,.bool false] from rfl]at hcv ⊢
 refine Zaa Tryz.func55 rfl rfl rfl rfl ?_
 repeat (first|(apply RL_pu;rfl;exact Zqu)|(refine js ?_;(refine bx ?_;intro bk))|refine walk1 ?_)
 exact rtC
theorem of_3 (w:World)(hG:Glob w):Does Tryz.prog 55 [.int .i64 3] w (fun v O=>v = .tuple #[.agg (vRow 3).toArray,.bool true]/\O=[]):=by
 have hcv:=ZtR hG 3
 rw[show vRow 3=[.string ⟨#[114,101,97,114,103,117,97,114,100]⟩,.bool false,.bool false,.bool true,.bool true] from rfl]at hcv ⊢
 refine Zaa Tryz.func55 rfl rfl rfl rfl ?_
 repeat (first|(apply RL_pu;rfl;exact Zqu)|(refine js ?_;(refine bx ?_;intro bk))|refine walk1 ?_)
 exact rtC
theorem ZwQ {G:Prop}(h:G:=by(apply Za2;rfl;rfl;exact b1)):G:=h
theorem ZCj (f:Int)(hf:f<1\/3<f)(w:World):Does Tryz.prog 55 [.int .i64 f] w (fun v O=>v = .tuple #[.agg #[.string ByteArray.empty,.bool false,.bool false,.bool false,.bool false],.bool false]/\O=[]):=by
 refine Zaa Tryz.func55 rfl rfl rfl rfl ?_
 by_cases h1:f<1
 ·have b1:decide (f<1)=true:=decide_eq_true h1
  repeat (first|refine und ?_|(apply RL_pu;rfl;exact ZwQ)|(refine js ?_;(refine bx ?_;intro bk))|refine walk1 ?_)
  exact rtC
 ·have b1:decide (f<1)=false:=decide_eq_false h1
  have b2:decide (4<=f)=true:=decide_eq_true (by omega)
  repeat (first|refine und ?_|(apply RL_pu;rfl;(first|exact ZwQ|(apply ZcJ;rfl;rfl;exact b2)))|(refine js ?_;(refine bx ?_;intro bk))|refine walk1 ?_)
  exact rtC
def Ze5 (a2 a3:Bool)(e:DEra):Bool:=(decide (ZaP e.format.data.toList=4)&&!a2)||(decide (ZaP e.format.data.toList=5)&&!a3)
def negB (a1:Bool)(r:Zab):Bool:=decide (r.save<0)&&!a1
def zGo (a2 a3:Bool):List ZaO->Nat->Option (Zas × Int)
 | [],_=>none
 | z::l,i=>match z.eras.findIdx? (Ze5 a2 a3) with|some j=>some (⟨2,i,j⟩,17)|none=>zGo a2 a3 l (i+1)
def vfG (a1 a2 a3 a4:Bool)(s:Zac):Option (Zas × Int) :=
 match s.rules.findIdx? (negB a1) with
 | some i=>some (⟨1,i,0⟩,17)
 | none=>match zGo a2 a3 s.zones 0 with
  | some x=>some x
  | none=>if 0<s.shifts.length/\a4=false then some (⟨4,0,0⟩,17) else none
theorem Zzj (p:DEra->Bool)(a2 a3:Bool)(hp:Ze5 a2 a3=p):∀ (l:List ZaO) (k:Nat),zGo a2 a3 l k=match l.findIdx? (fun z=>z.eras.any p) with
  | some i=>some (⟨2,(k+i:Nat),(((l[i]?).map fun z=>((z.eras.findIdx? p).getD 0)).getD 0)⟩,17)
  | none=>none
 | [],_=>rfl
 | z::l,k=>by
  rw[zGo,hp,List.findIdx?_cons]
  by_cases h:z.eras.any p=true
  ·rw[if_pos h]
   obtain⟨j,hj⟩:∃ j,z.eras.findIdx? p=some j:=by
    cases hq:z.eras.findIdx? p with
    | some j=>exact⟨j,rfl⟩
    | none =>
     rw[List.findIdx?_eq_none_iff]at hq
     rw[List.any_eq_true]at h
     obtain⟨x,hx,hx2⟩:=h
     rw[hq x hx]at hx2
     cases hx2
   rw[hj]
   simp[hj]
  ·rw[if_neg h]
   have hq:z.eras.findIdx? p=none:=by
    rw[List.findIdx?_eq_none_iff]
    intro x hx
    cases hpx:p x with
    | false=>rfl
    | true=>exact absurd (List.any_eq_true.2 ⟨x,hx,hpx⟩) h
   rw[hq]
   dsimp only
   rw[Zzj p a2 a3 hp l (k+1)]
   cases l.findIdx? (fun z=>z.eras.any p) with
   | none=>rfl
   | some i=>simp[Nat.add_comm,Nat.add_left_comm]
theorem ZtQ (f:Int)(a1 a2 a3 a4:Bool)(s:Zac)(h1:¬ (f<1\/3<f))(hn:(fun r:Zab=>decide (r.save<0)&&decide (f=3))=negB a1)
  (hw:(fun e:DEra=>(decide (ZaP e.format.data.toList=4)&&!decide (f=1))||(decide (ZaP e.format.data.toList=5)&&decide (f=1)))=Ze5 a2 a3) (h4:f≠3↔a4=false):Za7 f s=vfG a1 a2 a3 a4 s:=by
 unfold Za7 vfG
 rw[if_neg h1,hn]
 dsimp only
 rw[hw,Zzj (Ze5 a2 a3) a2 a3 rfl]
 cases s.rules.findIdx? (negB a1) with
 | some i=>rfl
 | none =>
  dsimp only
  cases s.zones.findIdx? (fun z=>z.eras.any (Ze5 a2 a3)) with
  | some i=>simp
  | none =>
   dsimp only
   by_cases h5:0<s.shifts.length/\f≠3
   ·rw[if_pos h5,if_pos ⟨h5.1,h4.1 h5.2⟩]
   ·rw[if_neg h5,if_neg (fun h=>h5 ⟨h.1,h4.2 h.2⟩)]
theorem vf_1 (s:Zac):Za7 1 s=vfG true true false false s:=ZtQ 1 _ _ _ _ s (by omega) (by funext r;simp[negB]) (by funext e;simp[Ze5]) (by simp)
theorem vf_2 (s:Zac):Za7 2 s=vfG true false true false s:=ZtQ 2 _ _ _ _ s (by omega) (by funext r;simp[negB]) (by funext e;simp[Ze5]) (by simp)
theorem vf_3 (s:Zac):Za7 3 s=vfG false false true true s:=ZtQ 3 _ _ _ _ s (by omega) (by funext r;simp[negB]) (by funext e;simp[Ze5]) (by simp)
end Go.Proofs.YtbjomhdhkpgbaaaGreatDoor
