/- Parts of the proof. -/
import Derived.Test.YtpipekfmecikmaaGreatDoorV10
import Derived.Test.YtpipekfmecikmaaGreatDoorV06
import Derived.Test.YtpipekfmecikmaaGreatDoorV08
import Derived.Test.YtpipekfmecikmaaGreatDoorV07
import Derived.OrdersIn
import Derived.Test.YtpipekfmecikmaaGreatDoorV09
set_option maxHeartbeats 4000000
set_option linter.unusedVariables false
set_option linter.unusedSimpArgs false
namespace Go.Proofs.YtpipekfmecikmaaGreatDoor
open Go Go.RowKit Go.Wk
attribute [local irreducible] W RL Does Zat Zaj retQ Calls Pu Stp RD Qy Ay Zak
theorem Zh3 (x:ByteArray)(z:DZone):∀ (l:List DZone) (k:Nat),ZaO x (l++[z]) k=(ZaO x l k).or (if z.name=x then some (k+l.length) else none)
 | [],k=>by simp[ZaO]
 | y::l,k=>by
  simp only[List.cons_append,ZaO,Zh3 x z l]
  split
  ·rfl
  ·rw[List.length_cons,show k+1+l.length=k+(l.length+1) by omega]
theorem Zh4 (x:ByteArray)(z:DLink):∀ (l:List DLink) (k:Nat),ZaR x (l++[z]) k=(ZaR x l k).or (if z.name=x then some (k+l.length) else none)
 | [],k=>by simp[ZaR]
 | y::l,k=>by
  simp only[List.cons_append,ZaR,Zh4 x z l]
  split
  ·rfl
  ·rw[List.length_cons,show k+1+l.length=k+(l.length+1) by omega]
theorem Zh6 (x:ByteArray):∀ (l:List DLink) (k i:Nat),ZaR x l k=some i->k<=i/\i<k+l.length
 | [],_,_,h=>by cases h
 | z::l,k,i,h=>by
  simp only[ZaR]at h
  split at h
  ·simp only[Option.some.injEq]at h;subst h;simp
  ·have:=Zh6 x l (k+1) i h;simp only[List.length_cons];omega
theorem Zjq {z:DZone}:∀ {l:List DZone} (k:Nat),z∈l->∃ j,ZaO z.name l k=some j
 | y::l,k,h=>by
  simp only[ZaO]
  split
  ·exact⟨_,rfl⟩
  ·rename_i hn
   rcases List.mem_cons.1 h with rfl|h
   ·exact absurd rfl hn
   ·exact Zjq (k+1) h
theorem Zjr {z:DLink}:∀ {l:List DLink} (k:Nat),z∈l->∃ j,ZaR z.name l k=some j
 | y::l,k,h=>by
  simp only[ZaR]
  split
  ·exact⟨_,rfl⟩
  ·rename_i hn
   rcases List.mem_cons.1 h with rfl|h
   ·exact absurd rfl hn
   ·exact Zjr (k+1) h
def IxM (m:List (ByteArray × Value))(f:ByteArray->Option Nat):Prop:=∀ x,mget m x=(f x).map fun i:Nat=>Value.int .i64 (i:Int)
theorem IxM.some {m:List (ByteArray × Value)}{f:ByteArray->Option Nat}(h:IxM m f){x:ByteArray}{i:Nat}(hf:f x=some i):(mget m x).getD (.int .i64 0) = .int .i64 i/\(mget m x).isSome=true:=by
 rw[h x,hf];exact⟨rfl,rfl⟩
theorem IxM.none {m:List (ByteArray × Value)}{f:ByteArray->Option Nat}(h:IxM m f){x:ByteArray}(hf:f x=none):(mget m x).getD (.int .i64 0) = .int .i64 0/\(mget m x).isSome=false:=by
 rw[h x,hf];exact⟨rfl,rfl⟩
theorem IxM.set {m:List (ByteArray × Value)}{f f':ByteArray->Option Nat}(h:IxM m f){k:ByteArray}{i:Nat}(hf:∀ x,f' x=if x=k then Option.some i else f x):IxM (mset m k (.int .i64 i)) f':=fun x=>by
 rw[ZhN,hf x]
 split
 ·rfl
 ·exact h x
def ZAl (f:ByteArray->Option Nat)(N:Nat)(v:Value)(O:List It):Prop:=∃ b m,v = .map (some b)/\O=[.mp b m]/\IxM m f/\Nd m/\m.length<=N
structure LG where
 k:Nat
 mp:List (ByteArray × Value)
theorem ZpU {G:Prop}(h:G:=by(first|exact PuI|(apply Zco;rfl;rfl;(focus repeat' constructor);exact hv0;exact hc0))):G:=h
theorem Znz (Ar Az Al As:Option Addr)(cr cz cl cs:Nat)(a:DSource)(w:World)(hA:Zar w Ar Az Al As cr cz cl cs a)(hn:a.zones.length<=1000000) :
  Does Tryz.prog 162 [srcV Ar Az Al As cr cz cl cs a] w (ZAl (fun x=>ZaO x a.zones 0) a.zones.length):=by
 refine Zaa Tryz.func162 rfl rfl rfl rfl ?_
 repeat (first|(refine js ?_;(first|(apply ZgL;rfl;intro bk)|(refine bx ?_;intro bk)))|refine walk ?_)
 refine Zai [(3,.map (some bk)),(13,.slice Az a.zones.length cz),(14,.int .i64 a.zones.length)] [] (fun g:LG=>[(15,.int .i64 g.k)]) (fun g=>[.mp bk g.mp]) (fun g=>g.k<=a.zones.length/\IxM g.mp (fun x=>ZaO x (a.zones.take g.k) 0)/\Nd g.mp/\g.mp.length<=g.k) (fun g=>a.zones.length - g.k) ⟨0,[]⟩ SFA SOA ⟨Nat.zero_le _,fun x=>rfl,List.nodup_nil,Nat.le_refl _⟩ ?_
 obtain⟨bm,hbm⟩:∃ bm,bk=bm:=⟨_,rfl⟩
 rw[hbm]
 clear hbm bk
 rintro⟨k,mp⟩ ⟨hk,hm,hd,hl⟩
 dsimp only at hk hm hd hl ⊢
 repeat (first|(refine js ?_;(refine bx ?_;intro bk))|refine walk ?_)
 refine Zaf rfl (fun hc=>?_) (fun hc=>?_)
 ·simp only[decide_eq_true_eq,Int.ofNat_lt]at hc
  obtain⟨hna,cs1,⟨Ae,ce,_,rfl⟩,hca⟩:=hA.z k _ (List.getElem?_eq_getElem hc)
  have ht:=List.take_append_getElem hc
  have hlen:(a.zones.take k).length=k:=by rw[List.length_take];omega
  generalize a.zones[k]=z at *
  have hsn:=fun x=>Zh3 x z (a.zones.take k) 0
  rw[ht,hlen]at hsn
  cases hf:ZaO z.name (a.zones.take k) 0 with
  | none =>
   obtain⟨hv0,hc0⟩:=hm.none hf
   repeat (first|(apply RL_pu;rfl;exact ZpU)|(refine js ?_;(refine bx ?_;intro bk))|refine walk1 ?_)
   refine⟨⟨k+1,mset mp z.name (.int .i64 k)⟩,OA,⟨OA,hm.set (k:=z.name) (i:=k) (fun x=>?_),hd.set _ _,?_⟩,SFA,SOA⟩
   ·dsimp only
    rw[hsn x]
    by_cases e:x=z.name
    ·subst e;simp[hf]
    ·rw[if_neg e,if_neg (fun h=>e h.symm),Option.or_none]
   ·have:=Zki z.name (.int .i64 (k:Int)) mp
    dsimp only
    omega
  | some j =>
   obtain⟨hv0,hc0⟩:=hm.some hf
   repeat (first|(apply RL_pu;rfl;exact ZpU)|(refine js ?_;(refine bx ?_;intro bk))|refine walk1 ?_)
   refine⟨⟨k+1,mp⟩,OA,⟨OA,fun x=>?_,hd,OA⟩,SFA,SOA⟩
   dsimp only
   rw[hm x,hsn x]
   dsimp only
   by_cases e:z.name=x
   ·subst e;rw[hf];rfl
   ·rw[if_neg e,Option.or_none]
 ·simp only[decide_eq_false_iff_not,Int.ofNat_lt]at hc
  rw[List.take_of_length_le (by omega)]at hm
  repeat (first|(refine js ?_;(refine bx ?_;intro bk))|refine walk ?_)
  exact ret_1 _ [.mp bm mp] (.tmp rfl) SOA ⟨bm,mp,rfl,rfl,hm,hd,by omega⟩
theorem Zkm (Ar Az Al As:Option Addr)(cr cz cl cs:Nat)(a:DSource)(w:World)(hA:Zar w Ar Az Al As cr cz cl cs a)(hn:a.links.length<=1000000) :
  Does Tryz.prog 163 [srcV Ar Az Al As cr cz cl cs a] w (ZAl (fun x=>ZaR x a.links 0) a.links.length):=by
 refine Zaa Tryz.func163 rfl rfl rfl rfl ?_
 repeat (first|(refine js ?_;(first|(apply ZgL;rfl;intro bk)|(refine bx ?_;intro bk)))|refine walk ?_)
 refine Zai [(3,.map (some bk)),(13,.slice Al a.links.length cl),(14,.int .i64 a.links.length)] [] (fun g:LG=>[(15,.int .i64 g.k)]) (fun g=>[.mp bk g.mp]) (fun g=>g.k<=a.links.length/\IxM g.mp (fun x=>ZaR x (a.links.take g.k) 0)/\Nd g.mp/\g.mp.length<=g.k) (fun g=>a.links.length - g.k) ⟨0,[]⟩ SFA SOA ⟨Nat.zero_le _,fun x=>rfl,List.nodup_nil,Nat.le_refl _⟩ ?_
 obtain⟨bm,hbm⟩:∃ bm,bk=bm:=⟨_,rfl⟩
 rw[hbm]
 clear hbm bk
 rintro⟨k,mp⟩ ⟨hk,hm,hd,hl⟩
 dsimp only at hk hm hd hl ⊢
 repeat (first|(refine js ?_;(refine bx ?_;intro bk))|refine walk ?_)
 refine Zaf rfl (fun hc=>?_) (fun hc=>?_)
 ·simp only[decide_eq_true_eq,Int.ofNat_lt]at hc
  obtain⟨hna,hca⟩:=hA.l.rd k _ (List.getElem?_eq_getElem hc)
  have ht:=List.take_append_getElem hc
  have hlen:(a.links.take k).length=k:=by rw[List.length_take];omega
  generalize a.links[k]=z at *
  have hsn:=fun x=>Zh4 x z (a.links.take k) 0
  rw[ht,hlen]at hsn
  cases hf:ZaR z.name (a.links.take k) 0 with
  | none =>
   obtain⟨hv0,hc0⟩:=hm.none hf
   repeat (first|(apply RL_pu;rfl;exact ZpU)|(refine js ?_;(refine bx ?_;intro bk))|refine walk1 ?_)
   refine⟨⟨k+1,mset mp z.name (.int .i64 k)⟩,OA,⟨OA,hm.set (k:=z.name) (i:=k) (fun x=>?_),hd.set _ _,?_⟩,SFA,SOA⟩
   ·dsimp only
    rw[hsn x]
    by_cases e:x=z.name
    ·subst e;simp[hf]
    ·rw[if_neg e,if_neg (fun h=>e h.symm),Option.or_none]
   ·have:=Zki z.name (.int .i64 (k:Int)) mp
    dsimp only
    omega
  | some j =>
   obtain⟨hv0,hc0⟩:=hm.some hf
   repeat (first|(apply RL_pu;rfl;exact ZpU)|(refine js ?_;(refine bx ?_;intro bk))|refine walk1 ?_)
   refine⟨⟨k+1,mp⟩,OA,⟨OA,fun x=>?_,hd,OA⟩,SFA,SOA⟩
   dsimp only
   rw[hm x,hsn x]
   dsimp only
   by_cases e:z.name=x
   ·subst e;rw[hf];rfl
   ·rw[if_neg e,Option.or_none]
 ·simp only[decide_eq_false_iff_not,Int.ofNat_lt]at hc
  rw[List.take_of_length_le (by omega)]at hm
  repeat (first|(refine js ?_;(refine bx ?_;intro bk))|refine walk ?_)
  exact ret_1 _ [.mp bm mp] (.tmp rfl) SOA ⟨bm,mp,rfl,rfl,hm,hd,by omega⟩
theorem ZvA:Zsr Tryz.prog 267:=fun args w=>by
 rw[run_callFunc_extern Tryz.func267 (by kernel_rfl) (by kernel_rfl) (by kernel_rfl) (e:=Extern.MapsClone.clone) (by kernel_rfl)]
theorem Znx (b:Nat)(m:List (ByteArray × Value))(w:World)(h:MpAt w b m) :
  Does Tryz.prog 218 [.map (some b)] w (fun v O=>∃ b2,v = .map (some b2)/\O=[.mp b2 m]):=by
 refine Zaa Tryz.func218 rfl rfl rfl rfl ?_
 repeat (first|(apply RL_pu;rfl;(first|(apply Zoj;rfl)|(apply Zoi;rfl)|(apply Zmx;rfl)))|(refine js ?_;(apply ZkH;exact ZvA;rfl;(intro w' hw _;exact h.up hw (Nat.le_refl _));intro bk))|refine walk1 ?_)
 exact ret_1 _ _ (.tmp rfl) (.refl _) ⟨_,rfl,rfl⟩
structure FG where
 seen:List ByteArray
 x:ByteArray
 mp:List (ByteArray × Value)
 f:Nat
theorem ZhO (x y:ByteArray)(l:List ByteArray):memB x (y::l)=(decide (y=x)||memB x l):=rfl
theorem ZxM {G:Prop}(h:G:=by(apply Ze6;rfl;rfl;exact h1;exact hv0;exact hc0)):G:=h
theorem Zub {G:Prop}(h:G:=by(first|exact ZxM|(apply Ze6;rfl;rfl;exact h2;exact hv1;exact hc1)|(apply Zco;rfl;rfl;(focus repeat' constructor);exact hv2;exact hc2))):G:=h
theorem ZnK (Ar Az Al As:Option Addr)(cr cz cl cs:Nat)(a:DSource)(b1 b2:Nat)(mk ml:List (ByteArray × Value))(name:ByteArray)(w:World)(hA:Zar w Ar Az Al As cr cz cl cs a)(h1:MpAt w b1 mk)(h2:MpAt w b2 ml)
  (hk:IxM mk fun x=>ZaO x a.zones 0) (hl:IxM ml fun x=>ZaR x a.links 0) (hd:Nd ml) (hlen:ml.length<=a.links.length) :
  Does Tryz.prog 161 [srcV Ar Az Al As cr cz cl cs a,.map (some b1),.map (some b2),.string name] w (fun v O=>v = .tuple #[.int .i64 (ZbR a (a.links.length+1) [] name).1,.int .i64 (ZbR a (a.links.length+1) [] name).2]/\O=[]):=by
 obtain⟨res,hres⟩:∃ res,ZbR a (a.links.length+1) [] name=res:=⟨_,rfl⟩
 rw[hres]
 refine Zaa Tryz.func161 rfl rfl rfl rfl ?_
 repeat (first|(refine js ?_;(first|(apply Zae (h:=fun w' hw _=>Znx b2 ml w' (h2.up hw (Nat.le_refl _)));rfl;rintro v O' ⟨bc,rfl,rfl⟩)|(refine bx ?_;intro bk)))|refine walk ?_)
 refine Zai [(1,.map (some b1)),(2,.map (some b2)),(4,.pointer (some ⟨bk,0,none⟩)),(10,.map (some bc))] [.blk bk [.slice Ar a.rules.length cr,.slice Az a.zones.length cz,.slice Al a.links.length cl,.slice As a.shifts.length cs] 27] (fun g:FG=>[(3,.string g.x)]) (fun g=>[.mp bc g.mp])
  (fun g=>Nd g.mp/\(∀ x,mget g.mp x=if memB x g.seen then none else mget ml x)/\ZbR a g.f g.seen g.x=res/\g.mp.length<g.f) (fun g=>g.mp.length) ⟨[],name,ml,a.links.length+1⟩ SFA SOA ⟨hd,fun x=>rfl,hres,by dsimp only;omega⟩ ?_
 rintro⟨seen,x,mp,f⟩ ⟨hd2,hm,hi,hf⟩
 dsimp only at hd2 hm hi hf ⊢
 obtain⟨f,rfl⟩:∃ f',f=f'+1:=⟨f - 1,by omega⟩
 rw[ZbR]at hi
 cases hz:ZaO x a.zones 0 with
 | some i =>
  rw[hz]at hi
  obtain⟨hv0,hc0⟩:=hk.some hz
  repeat (first|(apply RL_pu;rfl;exact ZxM)|(refine js ?_;(refine bx ?_;intro bk))|refine walk1 ?_)
  exact ret_2 _ _ [] (.tmp rfl) (.tmp rfl) .nil ⟨by rw[<- hi] <;> rfl,rfl⟩
 | none =>
  rw[hz]at hi
  obtain⟨hv0,hc0⟩:=hk.none hz
  cases hy:ZaR x a.links 0 with
  | none =>
   rw[hy]at hi
   obtain⟨hv1,hc1⟩:=hl.none hy
   have hg:mget mp x=none:=by
    rw[hm x,hl x]
    dsimp only
    rw[hy]
    split <;> rfl
   have hv2:(mget mp x).getD (.int .i64 0) = .int .i64 0:=by rw[hg];rfl
   have hc2:(mget mp x).isSome=false:=by rw[hg];rfl
   repeat (first|(apply RL_pu;rfl;exact Zub)|(refine js ?_;(refine bx ?_;intro bk))|refine walk1 ?_)
   exact ret_2 _ _ [] (.tmp rfl) (.tmp rfl) .nil ⟨by rw[<- hi] <;> rfl,rfl⟩
  | some i =>
   rw[hy]at hi
   dsimp only at hi
   obtain⟨hv1,hc1⟩:=hl.some hy
   cases hs:memB x seen with
   | true =>
    rw[hs,if_pos rfl]at hi
    have hg:mget mp x=none:=by rw[hm x,hs];rfl
    have hv2:(mget mp x).getD (.int .i64 0) = .int .i64 0:=by rw[hg];rfl
    have hc2:(mget mp x).isSome=false:=by rw[hg];rfl
    repeat (first|(apply RL_pu;rfl;exact Zub)|(refine js ?_;(refine bx ?_;intro bk))|refine walk1 ?_)
    exact ret_2 _ _ [] (.tmp rfl) (.tmp rfl) .nil ⟨by rw[<- hi] <;> rfl,rfl⟩
   | false =>
    rw[hs,if_neg (by decide)]at hi
    have hg:mget mp x=some (.int .i64 i):=by rw[hm x,hs,hl x];dsimp only;rw[hy];rfl
    have hv2:(mget mp x).getD (.int .i64 0) = .int .i64 i:=by rw[hg];rfl
    have hc2:(mget mp x).isSome=true:=by rw[hg];rfl
    have hdl:=ZoX x hc2
    have hlt:i<a.links.length:=by have:=Zh6 x a.links 0 i hy;omega
    obtain⟨hna,hca⟩:=hA.l.rd i _ (List.getElem?_eq_getElem hlt)
    rw[List.getElem?_eq_getElem hlt]at hi
    generalize a.links[i]=lk at *
    simp only[Option.map_some,Option.getD_some]at hi
    repeat (first|(apply RL_pu;rfl;(first|exact Zub|exact PuI))|(refine js ?_;(first|(apply Zq5;rfl;rfl;(focus repeat' constructor))|(refine bx ?_;intro bk)))|refine walk1 ?_)
    refine⟨⟨x::seen,lk.target,mdel mp x,f⟩,OA,⟨hd2.del _,fun y=>?_,hi,OA⟩,SFA,SOA⟩
    dsimp only
    rw[Zly x y hd2,hm y,ZhO]
    by_cases e:x=y
    ·subst e;simp
    ·rw[if_neg (fun h=>e h.symm),show decide (x=y)=false from decide_eq_false e,Bool.false_or]
end Go.Proofs.YtpipekfmecikmaaGreatDoor
namespace Go.Wk
open Go Go.RowKit
def cutI (l:List UInt8):Option Nat:=l.findIdx? (·==47)
theorem Zij:∀ (l acc:List UInt8),ZdY l acc=match cutI l with|none=>[acc++l]|some i=>(acc++l.take i)::ZdY (l.drop (i+1)) []
 | [],acc=>by simp[ZdY,cutI]
 | c::l,acc=>by
  rw[ZdY]
  by_cases h:c=47
  ·subst h
   simp[cutI,List.findIdx?_cons]
  ·rw[if_neg h,Zij l]
   have hb:(c==47)=false:=by simpa using h
   simp only[cutI,List.findIdx?_cons,hb]
   cases h2:l.findIdx? (·==47) with
   | none=>simp
   | some i=>simp
theorem Zyt {l:List UInt8}{i:Nat}(h:cutI l=some i):i<l.length:=(List.findIdx?_eq_some_iff_findIdx_eq.1 h).1
theorem ZlS (s:ByteArray):firstIdx s 47=match cutI s.data.toList with|none => -1|some i=>(i:Int):=by
 unfold firstIdx cutI
 have hsz:s.size=s.data.toList.length:=rfl
 have key:∀ (l:List UInt8) (f:Nat->UInt8),(∀ i,i<l.length->f i=l.getD i 0)->(List.range l.length).find? (fun i=>f i==47)=l.findIdx? (·==47):=by
  intro l
  induction l with
  | nil=>intro f _;rfl
  | cons c l ih =>
   intro f hf
   rw[List.length_cons,List.range_succ_eq_map,List.find?_cons,List.findIdx?_cons]
   have h0:f 0=c:=by rw[hf 0 (by simp)];rfl
   rw[h0]
   cases hc:c==47 with
   | true=>rfl
   | false =>
    rw[List.find?_map]
    have:=ih (fun i=>f (i+1)) (fun i hi=>by rw[hf (i+1) (by simp;omega)];rfl)
    simp only[Function.comp_def]at this ⊢
    rw[show(fun x:Nat=>f (Nat.succ x)==47)=fun i=>f (i+1)==47 from rfl,this]
    cases l.findIdx? (·==47) <;> rfl
 have hk:=key s.data.toList (fun i=>s[i]!) (fun i hi=>by
  have:i<s.size:=hi
  rw[List.getD_eq_getElem?_getD,List.getElem?_eq_getElem hi]
  simp[getElem!_def,this]
  rfl)
 rw[hsz]
 rw[hk]
 cases s.data.toList.findIdx? (·==47) <;> rfl
end Go.Wk
namespace Go.Proofs.YtpipekfmecikmaaGreatDoor
open Go Go.RowKit Go.Wk
attribute [local irreducible] W RL Does Zat Zaj retQ Calls Pu Stp RD Qy Ay Zak
theorem Zyk (args:Array Value)(w:World):(callFunc 318 args).run Tryz.prog w=((Extern.BytealgIndexByte.indexByte args).run Tryz.prog w).andThen fun v w' => .ok (.value v) w':=by
 rw[run_callFunc_extern Tryz.func318 (by kernel_rfl) (by kernel_rfl) (by kernel_rfl) (e:=Extern.BytealgIndexByte.indexByte) (by kernel_rfl)]
section
variable {n:Nat}{wr:World}{fr:Fr}{O:List It}{ty:TypeId}{pos:String}{af:Array Edge}{dst:Option Tmp}{g:Option (Nat × Bool)}{Kp:Value->List It->Prop}
theorem ZyN {x y:Operand}{ts:Array TypeId}{s:ByteArray}{c:Int}(hx:ev fr x=some (.string s))(hy:ev fr y=some (.int .u8 c))(kk:Kp (.int .i64 (firstIdx s c.toNat.toUInt8)) O) :
  Stp Tryz.prog n wr fr O ⟨dst,.call ⟨.value (.func 318),#[x,y],ts⟩,ty,pos,af,g⟩ Kp :=
 ZbG fun a w hs=>by
  refine⟨_,w,O,?_,hs.old,hs.own,kk⟩
  have h1:=hs.sim.ev hx
  have h2:=hs.sim.ev hy
  have he:a.eval (.func 318) = .func (.func 318) #[] #[]:=rfl
  have hc:=Zyk #[.string s,.int .u8 c] w
  rw[run_indexByte_string,Result.andThen_ok]at hc
  simp[execOp,resolve,he,Deferred.ofValue,invoke,hc,h1,h2]
end
theorem Zvl (s:ByteArray)(c:Int)(w:World):Does Tryz.prog 295 [.string s,.int .u8 c] w (fun v O=>v = .int .i64 (firstIdx s c.toNat.toUInt8)/\O=[]):=by
 refine Zaa Tryz.func295 rfl rfl rfl rfl ?_
 repeat (first|(refine js ?_;(apply ZyN;rfl;rfl))|refine walk ?_)
 exact rtA
theorem ZlR (s:ByteArray)(c:UInt8)(h:(⟨#[c]⟩:ByteArray)=s):firstIdx s c=0:=by
 subst h
 have hs:(⟨#[c]⟩:ByteArray).size=1:=rfl
 unfold firstIdx
 rw[hs]
 have:(⟨#[c]⟩:ByteArray)[0]! = c:=rfl
 simp[List.range_succ,this]
theorem ZtD {G:Prop}(h:G:=by(apply ZbX;rfl;rfl;exact hb)):G:=h
theorem Zvm (s:ByteArray)(c:UInt8)(w:World):Does Tryz.prog 285 [.string s,.string ⟨#[c]⟩] w (fun v O=>v = .int .i64 (firstIdx s c)/\O=[]):=by
 have hu:((c.toNat:Int)).toNat.toUInt8=c:=by simp
 have hi:=fun w'=>Zvl s (c.toNat:Int) w'
 rw[hu]at hi
 have hsz:(0:Int)<((⟨#[c]⟩:ByteArray).size:Int):=show(0:Int)<1 by decide
 by_cases he:(⟨#[c]⟩:ByteArray)=s
 ·have hb:decide ((⟨#[c]⟩:ByteArray)=s)=true:=decide_eq_true he
  have h0:=ZlR s c he
  refine Zaa Tryz.func285 rfl rfl rfl rfl ?_
  repeat (first|(apply RL_pu;rfl;exact ZtD)|refine walk1 ?_)
  exact ret_1 _ [] (.tmp rfl) .nil ⟨by rw[h0],rfl⟩
 ·have hb:decide ((⟨#[c]⟩:ByteArray)=s)=false:=decide_eq_false he
  refine Zaa Tryz.func285 rfl rfl rfl rfl ?_
  repeat (first|(apply RL_pu;rfl;(first|exact ZtD|(apply Zmu;rfl;rfl;decide;exact hsz)))|(refine js ?_;(refine Zab (fun w' _=>hi w') ?_))|refine walk1 ?_)
  exact rtA
theorem ZnH (s:ByteArray)(c:UInt8)(w:World):Does Tryz.prog 315 [.string s,.string ⟨#[c]⟩] w (fun v O=>v = .int .i64 (firstIdx s c)/\O=[]):=by
 have hi:=fun w'=>Zvm s c w'
 refine Zaa Tryz.func315 rfl rfl rfl rfl ?_
 repeat (first|(refine js ?_;(refine Zab (fun w' _=>hi w') ?_))|refine walk ?_)
 exact rtA
def itO (b1 b2 b3:Nat)(s p:ByteArray):List It:=[.blk b1 [.string s] 9,.blk b2 [.string p] 9,.blk b3 [.int .i64 0] 3]
def itV (b1 b2 b3:Nat):Value := .func (.func 313) #[] #[.pointer (some ⟨b2,0,none⟩),.pointer (some ⟨b1,0,none⟩),.pointer (some ⟨b3,0,none⟩)]
theorem Zj7 (s p:ByteArray)(w:World):Does Tryz.prog 291 [.string s,.string p,.int .i64 0] w (fun v O=>∃ b1 b2 b3,v=itV b1 b2 b3/\O=itO b1 b2 b3 s p):=by
 refine Zaa Tryz.func291 rfl rfl rfl rfl ?_
 apply W_seq
 apply W_region
 apply RL_st;rfl;(apply Stp_boxNf;rfl;(focus repeat (first|exact Nf.nil|apply Nf.cons));intro b1)
 apply RL_st;rfl;(apply Stp_boxNf;rfl;(focus repeat (first|exact Nf.nil|apply Nf.cons));intro b2)
 apply RL_st;rfl;(apply Stp_boxNf;rfl;(focus repeat (first|exact Nf.nil|apply Nf.cons));intro b3)
 repeat (first|(refine js ?_;(refine bx ?_;intro bk))|refine walk ?_)
 exact ret_1 _ (itO b1 b2 b3 s p) (.tmp rfl) SOA ⟨b1,b2,b3,rfl,rfl⟩
theorem ZkI (s p:ByteArray)(w:World):Does Tryz.prog 275 [.string s,.string p] w (fun v O=>∃ b1 b2 b3,v=itV b1 b2 b3/\O=itO b1 b2 b3 s p):=by
 have hi:=fun w'=>Zj7 s p w'
 refine Zaa Tryz.func275 rfl rfl rfl rfl ?_
 repeat (first|(refine js ?_;(apply Zae (h:=fun w' _ _=>hi w');rfl;rintro v O' ⟨b1,b2,b3,rfl,rfl⟩))|refine walk ?_)
 exact ret_1 _ (itO b1 b2 b3 s p) (.tmp rfl) SOA ⟨b1,b2,b3,rfl,rfl⟩
end Go.Proofs.YtpipekfmecikmaaGreatDoor
namespace Go.Wk
open Go Go.RowKit
theorem Znp {P:Program}{n:Nat}{wr:World}{x y:Code}{Q2:Exit->Act->World->Prop}{fr:Fr}{O:List It}(I:Fr->List It->Prop)(h:W P n wr x (fun e fr O=>e = .normal/\I fr O) fr O)(k:∀ a w fr' O',St n wr fr' O' a w->I fr' O'->y.wp P Q2 a w) :
  ∀ a w,St n wr fr O a w->(Code.seq x y).wp P Q2 a w:=by
 intro a w hs
 refine wp_seq (wp_mono (h a w hs) ?_)
 rintro e a' w' ⟨fr',O',hs',rfl,hi⟩
 exact k a' w' fr' O' hs' hi
theorem St.sub {n:Nat}{wr:World}{fr fr':Fr}{O O':List It}{a:Act}{w:World}(h:St n wr fr O a w)(hf:Sub fr' fr)(hO:SubO O' O):St n wr fr' O' a w:=⟨h.sim.sub hf,h.old,h.own.sub hO⟩
end Go.Wk
namespace Go.Proofs.YtpipekfmecikmaaGreatDoor
open Go Go.RowKit Go.Wk
attribute [local irreducible] W RL Does Zat Zaj retQ Calls Pu Stp RD Qy Ay Zak RLI WI
def Asks (l b1 b2 b3:Nat)(ok:List UInt8->Bool)(OC OF:List It)(wr:World):Prop :=
 ∀ x rest:ByteArray,(x.size:Int)<=9223372036854775807->Zg8 Tryz.prog l (.string x) wr (itO b1 b2 b3 rest ⟨#[47]⟩++OC) fun b O'=>b=ok x.data.toList/\(b=true->SubO (itO b1 b2 b3 rest ⟨#[47]⟩++OC) O')/\(b=false->SubO OF O')
theorem ZpE {G:Prop}(h:G:=by(apply Pu_loadB1;rfl;(focus repeat' constructor);rfl)):G:=h
theorem Zk6 (l b1 b2 b3:Nat)(ok:List UInt8->Bool)(OC OF:List It)(wr:World)(hY:Asks l b1 b2 b3 ok OC OF wr)(s:ByteArray)(hs:(s.size:Int)<=9223372036854775807) :
  Zak Tryz.prog 313 [.func (.yield l) #[] #[],.pointer (some ⟨b2,0,none⟩),.pointer (some ⟨b1,0,none⟩),.pointer (some ⟨b3,0,none⟩)] wr (itO b1 b2 b3 s ⟨#[47]⟩++OC)
   (fun v O'=>v = .tuple #[]/\((ZdY s.data.toList []).all ok=true->SubO OC O')/\((ZdY s.data.toList []).all ok=false->SubO OF O')):=by
 obtain⟨res,hres⟩:∃ res,(ZdY s.data.toList []).all ok=res:=⟨_,rfl⟩
 rw[hres]
 have hix:=fun(t:ByteArray) w'=>ZnH t 47 w'
 unfold itO at *
 simp only[List.cons_append,List.nil_append]at *
 refine Zfl Tryz.func313 rfl rfl rfl rfl ?_
 repeat (first|refine walk ?_)
 refine Zai [(0,.func (.yield l) #[] #[]),(1,.pointer (some ⟨b2,0,none⟩)),(2,.pointer (some ⟨b1,0,none⟩)),(3,.pointer (some ⟨b3,0,none⟩))] [] (fun _:ByteArray=>[]) (fun g => .blk b1 [.string g] 9 :: .blk b2 [.string ⟨#[47]⟩] 9 :: .blk b3 [.int .i64 0] 3::OC)
  (fun g=>(g.size:Int)<=9223372036854775807/\(ZdY g.data.toList []).all ok=res) (fun g=>g.size) s SFA ?_ ⟨hs,hres⟩ ?_
 ·rw[List.append_nil];exact .refl _
 rintro g ⟨hg,hi⟩
 rw[List.append_nil]
 have hfi:=ZlS g
 rw[Zij]at hi
 cases hc:cutI g.data.toList with
 | none =>
  rw[hc]at hfi hi
  dsimp only at hfi hi
  have hix2:=hix g
  rw[hfi]at hix2
  have hsY:=hg
  repeat (first|(apply Zmm;rfl;rfl;rfl;(intro c h;cases h);rfl;(first|(apply Pu_loadB1;rfl;(focus repeat' constructor);rfl)|(apply Pu_move;rfl));rfl;rfl;exact hY _ _ hsY;rintro b O' ⟨rfl,hb2,hb3⟩)|(apply RL_pu;rfl;exact ZpE)|(refine js ?_;(refine Zab (fun w' _=>hix2 w') ?_))|refine walk1 ?_)
  refine Zb5 ?_
  rw[List.nil_append,List.all_cons,List.all_nil,Bool.and_true]at hi
  refine ZAq O' (.refl _) ⟨rfl,fun h=>?_,fun h=>hb3 (by rw[hi];exact h)⟩
  exact(SubO.trans (SubO.right (itO b1 b2 b3 g ⟨#[47]⟩) OC) (hb2 (by rw[hi];exact h)))
 | some i =>
  rw[hc]at hfi hi
  dsimp only at hfi hi
  have hix2:=hix g
  rw[hfi]at hix2
  have hlt:=Zyt hc
  have hsz:g.size=g.data.toList.length:=rfl
  have hx0:(g.extract 0 i).data.toList=g.data.toList.take i:=by rw[ByteArray.data_extract];simp
  have hx1:(g.extract (i+1) g.size).data.toList=g.data.toList.drop (i+1):=by
   rw[ByteArray.data_extract]
   simp only[Array.toList_extract,List.extract_eq_take_drop]
   exact List.take_of_length_le (by rw[List.length_drop];omega)
  have hi0:(0:Int)<=(i:Int):=Int.natCast_nonneg i
  have hi1:(i:Int)<(g.data.toList.length:Int):=Int.ofNat_lt.2 hlt
  have hsY:((g.extract 0 i).size:Int)<=9223372036854775807:=by rw[ByteArray.size_extract];omega
  repeat (first|(apply Zmm;rfl;rfl;rfl;(intro c h;cases h);rfl;(first|(apply Pu_loadB1;rfl;(focus repeat' constructor);rfl)|(apply Pu_move;rfl));rfl;rfl;exact hY _ _ hsY;rintro b O' ⟨rfl,hb2,hb3⟩)|(apply RL_pu;rfl;(apply Zgo;rfl;rfl;omega;omega))|(refine js ?_;(refine Zab (fun w' _=>hix2 w') ?_))|refine walk1 ?_)
  rw[List.nil_append,List.all_cons]at hi
  have hx2:(g.extract 0 (Int.toNat ((i:Int)+0))).data.toList=g.data.toList.take i:=by rw[Int.add_zero];exact hx0
  rw[hx2]at hb2 hb3
  apply ZfP (.inl rfl);rfl;(intro c h;cases h);(apply Pu_not;rfl)
  refine Zb5 ?_
  apply thenQ_n
  rw[hx2]
  refine Zaf rfl (fun h=>?_) (fun h=>?_)
  ·simp only[Bool.not_eq_true']at h
   rw[h,Bool.false_and]at hi
   subst hi
   repeat (first|refine walk ?_)
   exact Zzd O' (.refl _) ⟨rfl,fun h2=>(by cases h2),fun _=>hb3 h⟩
  ·simp only[Bool.not_eq_false']at h
   rw[h,Bool.true_and]at hi
   have hlen:(((⟨#[47]⟩:ByteArray).size:Nat):Int)=1:=rfl
   have htn:((i:Int)+(((⟨#[47]⟩:ByteArray).size:Nat):Int)).toNat=i+1:=by rw[hlen];omega
   refine ZcO (fr':=[(7,.int .i64 i),(0,.func (.yield l) #[] #[]),(1,.pointer (some ⟨b2,0,none⟩)),(2,.pointer (some ⟨b1,0,none⟩)),(3,.pointer (some ⟨b3,0,none⟩))]) (O' := .blk b1 [.string g] 9 :: .blk b2 [.string ⟨#[47]⟩] 9 :: .blk b3 [.int .i64 0] 3::OC) SFA (hb2 h) ?_
   repeat (first|(apply RL_pu;rfl;(apply Zgn;rfl;rfl;omega;omega))|refine walk1 ?_)
   refine⟨g.extract ((i:Int)+(((⟨#[47]⟩:ByteArray).size:Nat):Int)).toNat g.size,?_,⟨?_,?_⟩,SFA,?_⟩
   ·rw[htn,ByteArray.size_extract];omega
   ·rw[htn,ByteArray.size_extract];omega
   ·rw[htn,hx1];exact hi
   ·rw[List.append_nil];exact .refl _
def okP (s:ByteArray)(l:List UInt8):Bool:=decide (s.size<=60)&&Zf3 l
theorem Zya (s:ByteArray):(ZdY s.data.toList []).all (okP s)=ZeS s:=by
 have hne:ZdY s.data.toList []≠[]:=by
  rw[Zij];split <;> simp
 unfold ZeS okP
 by_cases h:s.size<=60
 ·simp[h]
 ·cases hc:ZdY s.data.toList [] with
  | nil=>exact absurd hc hne
  | cons x l=>simp[h]
theorem Zu4 (l:List UInt8):Zf3 l=(ZbK 1 14 31 l&&!(match l with|c::_=>decide (c=46)||decide (c=45)|[]=>false)):=rfl
def ZAo (s:ByteArray)(w:World):Ending->World->Prop:=fun e w'=>∃ v O,e = .returned v/\Bel w.heap.size w w'/\ZaA w.heap.size O w'/\v = .bool (ZeS s)/\O=[]
theorem ZuL {n:Nat}{wr:World}{fr:Fr}{O:List It}{a:Act}{w:World}{D:Nat}(hs:St n wr fr (Zez D::O) a w):St n wr fr O a (w.putObj D (.deferred none)):=by
 have hin:=hs.own.inb _ List.mem_cons_self D rfl
 refine⟨hs.sim,hs.old.trans ⟨⟨rfl,rfl,rfl,by rw[ZdA];exact Nat.le_refl _,fun i hi=>World.putObj_heap_other (by omega)⟩⟩,hs.own.tail.congr (by rw[ZdA];exact Nat.le_refl _) fun b ⟨i,hi,hb⟩=>World.putObj_heap_other fun e=>?_⟩
 exact(List.pairwise_cons.1 hs.own.sep).1 i hi D rfl (e▸hb)
theorem ZiT (s:ByteArray)(w:World){fr:Fr}{O R:List It}{a:Act}{w':World}{D br:Nat}{b:Bool}(hs:St 28 w fr (Zez D::O) a w')(h2:Wk.look fr 2=some (.pointer (some ⟨br,0,none⟩)))(hp:Pick (.blk br [.bool b] 4) O R)(hb:b=ZeS s) :
  bodyPostM Fence.wide 0 Tryz.prog Tryz.f233 (ZAo s w) .ret (actD (Zkl D) a) w':=by
 have hK:=Zez.at (hs.own.sat _ List.mem_cons_self)
 have hs2:=ZuL hs
 refine⟨by simp,.inl ⟨_,_,rfl,run_takeDeferred hK,?_⟩⟩
 refine⟨.bool b,?_,_,[],rfl,hs2.old,ZaA.nil _ _,by rw[hb],rfl⟩
 have hc:(w'.putObj D (.deferred none)).cell? ⟨br,0,none⟩=some (.bool b):=by
  rw[Zcy (hs2.own.of hp)];rfl
 have hres:Tryz.f233.results=[ResultVar.cell 2 4].toArray:=rfl
 show(results Tryz.f233 a.tmps).run Tryz.prog _=_
 unfold results
 rw[hres,List.mapM_toArray]
 simp only[Sem.run_bind,Sem.run_map]
 rw[Zdy (P:=Tryz.prog) hs2 _ (fun _=>rfl) (fun _ _=>rfl) [ResultVar.cell 2 4] [.bool b] ⟨_,[],rfl,⟨_,h2,fun w3 hB hH=>?_⟩,rfl⟩]
 ·simp only[Result.andThen_ok,Sem.run_pure]
  rfl
 ·rw[Zd8]
  rw[Zcy (hH.of hp)];rfl
instance : ZeroT Tryz.prog 62 [.nilFunc]:=⟨by kernel_rfl⟩
theorem ZkW (s:ByteArray)(hs:(s.size:Int)<=9223372036854775807)(w:World):Does Tryz.prog 233 [.string s] w (fun v O=>v = .bool (ZeS s)/\O=[]):=by
 unfold Does
 refine Zra Tryz.func233 rfl rfl rfl ?_
 intro a0 hst
 -- Zaa Tryz.func233
 refine Znp (fun fr' O'=>∃ bs br,Sub [(1,.pointer (some ⟨bs,0,none⟩)),(2,.pointer (some ⟨br,0,none⟩))] fr'/\SubO [.blk bs [.string s] 9,.blk br [.bool false] 4] O') ?_ ?_ a0 w hst
 ·apply W_region
  apply RL_st;rfl;(apply Stp_boxNf;rfl;(focus repeat' constructor);intro bs)
  apply RL_st;rfl;(apply Stp_alloc;intro br)
  apply RL_nil
  exact⟨rfl,bs,br,SFA,SOA⟩
 rintro a1 w1 fr1 O1 hs0 ⟨bs,br,hf1,hO1⟩
 have hs1:=hs0.sub hf1 hO1
 clear hf1 hO1 hs0 hst a0 fr1 O1
 refine Znp (fun fr' O'=>∃ bf b1 b2 b3 b4,Sub [(1,.pointer (some ⟨bs,0,none⟩)),(2,.pointer (some ⟨br,0,none⟩)),(3,.pointer (some ⟨bf,0,none⟩))] fr'/\SubO (.blk bs [.string s] 9 :: .blk br [.bool false] 4 :: .blk bf [ofV b1 b2 b3 b4] 62::ofO 1 14 31 b1 b2 b3 b4) O') ?_ ?_ a1 w1 hs1
 ·repeat (first|(refine js ?_;(first|(apply Zae (h:=fun w' _ _=>Zfw 1 14 31 w');rfl;rintro v O' ⟨b1,b2,b3,b4,rfl,rfl⟩)|(refine bx ?_;intro bk)))|refine walk ?_)
  exact⟨rfl,_,b1,b2,b3,b4,SFA,SOA⟩
 rintro a2 w2 fr2 O2 hs0 ⟨bf,b1,b2,b3,b4,hf2,hO2⟩
 have hs2:=hs0.sub hf2 hO2
 clear hf2 hO2 hs0 hs1 a1 w1 fr2 O2
 refine wp_seq ?_
 refine Znp (fun fr' O'=>∃ c1 c2 c3,Sub [(1,.pointer (some ⟨bs,0,none⟩)),(2,.pointer (some ⟨br,0,none⟩)),(3,.pointer (some ⟨bf,0,none⟩)),(7,itV c1 c2 c3)] fr'/\SubO (itO c1 c2 c3 s ⟨#[47]⟩++(.blk bs [.string s] 9 :: .blk br [.bool false] 4 :: .blk bf [ofV b1 b2 b3 b4] 62::ofO 1 14 31 b1 b2 b3 b4)) O') ?_ ?_ a2 w2 hs2
 ·repeat (first|(apply RL_pu;rfl;exact ZpE)|(refine js ?_;(first|(apply Zae (h:=fun w' _ _=>ZkI s ⟨#[47]⟩ w');rfl;rintro v O' ⟨c1,c2,c3,rfl,rfl⟩)|(refine bx ?_;intro bk)))|refine walk1 ?_)
  exact⟨rfl,c1,c2,c3,SFA,.refl _⟩
 rintro a3 w3 fr3 O3 hs0 ⟨c1,c2,c3,hf3,hO3⟩
 have hs3:=hs0.sub hf3 hO3
 clear hf3 hO3 hs0 hs2 a2 w2 fr3 O3
 refine wp_block ?_
 refine ZuY (gf:=313) (lb:=[.pointer (some ⟨c2,0,none⟩),.pointer (some ⟨c1,0,none⟩),.pointer (some ⟨c3,0,none⟩)]) (fun jump O2=>SubO [.blk br [.bool false] 4] O2/\((jump=none/\ZeS s=true)\/(jump=some .ret/\ZeS s=false))) hs3 rfl ?_ ?_
 ·intro fn l D
  generalize hr:ZiS fn a3.tmps 8 _ _ D=r
  have hit:=Zk6 l c1 c2 c3 (okP s) (Zbw l r::Zez D :: .blk bs [.string s] 9 :: .blk br [.bool false] 4 :: .blk bf [ofV b1 b2 b3 b4] 62::ofO 1 14 31 b1 b2 b3 b4) (Zbw l { r with state := .done,pending:=some .ret }::Zez D::[.blk br [.bool false] 4]) w ?_ s hs
  ·refine hit.sub (by unfold itO ofO;exact SOA) fun v O' ⟨_,h1,h2⟩=>?_
   rw[Zya]at h1 h2
   cases hz:ZeS s with
   | true=>exact⟨none,_,.ready,SubO.trans (by rw[<- hr];exact .refl _) (h1 hz),by decide,SOA,.inl ⟨rfl,rfl⟩⟩
   | false=>exact⟨some .ret,_,.done,h2 hz,by decide,.refl _,.inr ⟨rfl,rfl⟩⟩
  ·intro x rest hx
   refine ZkX (r:=r) (p:=8) (fr:=[(1,.pointer (some ⟨bs,0,none⟩)),(2,.pointer (some ⟨br,0,none⟩)),(3,.pointer (some ⟨bf,0,none⟩)),(7,itV c1 c2 c3)]) (a0:=a3) (O1:=itO c1 c2 c3 rest ⟨#[47]⟩++(Zbw l { r with state := .busy }::Zez D :: .blk bs [.string s] 9 :: .blk br [.bool false] 4 :: .blk bf [ofV b1 b2 b3 b4] 62::ofO 1 14 31 b1 b2 b3 b4)) (by rw[<- hr];rfl) (by rw[<- hr];rfl) (by rw[<- hr];rfl) hs3.sim rfl (by unfold itO;exact(by repeat' constructor)) (by rw[<- hr];rfl) ?_
   apply ZfP (Or.inr ⟨_,rfl⟩);rfl;(intro c h;cases h);(apply Pu_assign;rfl)
   refine Zb5 ⟨rfl,?_⟩
   have hbody:∀ Q fr O,(∀ b:Code,b=r.body->WI (Fence.wide.inRound l) [] Tryz.prog 28 w b Q fr O)->WI (Fence.wide.inRound l) [] Tryz.prog 28 w r.body Q fr O:=fun Q fr O h=>h _ rfl
   refine hbody _ _ _ fun b hb=>?_
   rw[<- hr]at hb
   dsimp only[ZiS]at hb
   subst hb
   unfold itO ofO
   simp only[List.cons_append,List.nil_append]
   refine ZvI (ZjQ (Zdn ?_))
   have hsx:(s.size:Int)<=9223372036854775807:=hs
   by_cases hlong:(60:Int)<(s.size:Int)
   ·have h60:decide ((60:Int)<(s.size:Int))=true:=decide_eq_true hlong
    have hbad:false=okP s x.data.toList:=by
     unfold okP;rw[decide_eq_false (by omega),Bool.false_and]
    repeat (first|(apply ZfP (Or.inr ⟨_,rfl⟩);rfl;(intro c h;cases h);(first|(apply Pu_loadB1;rfl;(focus repeat' constructor);rfl)|(apply Pu_lenS;rfl)|(apply Zaw;rfl;rfl;exact h60)|(apply Pu_move;rfl)|(apply Pu_not;rfl)|(apply Pu_pickT;rfl;rfl)|(apply Pu_pickF;rfl;rfl)))|(refine Ziz rfl rfl rfl ?_)|(refine Zmp (Or.inr ⟨_,rfl⟩) rfl rfl rfl rfl rfl ?_)|(refine Zb5 ?_))
    refine thenQ_n ?_
    refine Ziy rfl (fun _=>?_) (fun h=>by cases h)
    refine ZjQ (Zdn ?_)
    apply ZfO (Or.inr ⟨_,rfl⟩);(intro d hd;cases hd);(intro c h;cases h);(intro a w hs;exact Zdm a w)
    (apply Stp_storeNf;rfl;rfl;(focus repeat' constructor);(focus repeat (first|exact Nf.nil|apply Nf.cons));rfl;rfl;rfl;(focus repeat' constructor))
    refine Zb5 ?_
    refine thenQ_n ?_
    refine Zmn ?_
    refine blockQ_r ?_
    exact⟨_,(by repeat' constructor),hbad,fun h=>(by cases h),fun _=>SOA⟩
   have h60:decide ((60:Int)<(s.size:Int))=false:=decide_eq_false hlong
   have hok:okP s x.data.toList=Zf3 x.data.toList:=by
    unfold okP;rw[decide_eq_true (by omega),Bool.true_and]
   have hoc:=fun{base:Nat} {O:List It} {w':World} (hH:ZaA base O w') (hO:SubO (ofO 1 14 31 b1 b2 b3 b4) O)=>Zkg (a:=1) (b:=14) (m:=31) hx (by decide) hH hO
   rw[hok,Zu4]
   cases hn:ZbK 1 14 31 x.data.toList with
   | false =>
    rw[hn]at hoc
    have hbad:false=(false&&!(match x.data.toList with|c::_=>decide (c=46)||decide (c=45)|[]=>false)):=rfl
    repeat (first|(apply ZfP (Or.inr ⟨_,rfl⟩);rfl;(intro c h;cases h);(first|(apply Pu_loadB1;rfl;(focus repeat' constructor);rfl)|(apply Pu_lenS;rfl)|(apply Zaw;rfl;rfl;exact h60)|(apply Pu_move;rfl)|(apply Pu_not;rfl)|(apply Pu_pickT;rfl;rfl)|(apply Pu_pickF;rfl;rfl)))|(refine Ziz rfl rfl rfl ?_)|(refine Zmp (Or.inr ⟨_,rfl⟩) rfl rfl rfl rfl rfl ?_)|(apply ZfO (Or.inr ⟨_,rfl⟩);(intro d hd;cases hd;rfl);(intro c h;cases h);(intro a w hs;exact ZeL (f:=265) (us:=[]) (cs:=[.pointer (some ⟨b1,0,none⟩),.pointer (some ⟨b2,0,none⟩),.pointer (some ⟨b3,0,none⟩),.pointer (some ⟨b4,0,none⟩)]) hs rfl);(apply Zay (f:=265) (us:=[]) (vs:=[.string x]) (cs:=[.pointer (some ⟨b1,0,none⟩),.pointer (some ⟨b2,0,none⟩),.pointer (some ⟨b3,0,none⟩),.pointer (some ⟨b4,0,none⟩)]) (h:=fun w' _ hH=>hoc hH (by unfold ofO;exact SOA));rfl;rfl;rintro v O' ⟨rfl,rfl⟩))|(refine Zb5 ?_))
    refine thenQ_n ?_
    refine Ziy rfl (fun _=>?_) (fun h=>by cases h)
    refine ZjQ (Zdn ?_)
    apply ZfO (Or.inr ⟨_,rfl⟩);(intro d hd;cases hd);(intro c h;cases h);(intro a w hs;exact Zdm a w)
    (apply Stp_storeNf;rfl;rfl;(focus repeat' constructor);(focus repeat (first|exact Nf.nil|apply Nf.cons));rfl;rfl;rfl;(focus repeat' constructor))
    refine Zb5 ?_
    refine thenQ_n ?_
    refine Zmn ?_
    refine blockQ_r ?_
    exact⟨_,(by repeat' constructor),hbad,fun h=>(by cases h),fun _=>SOA⟩
   | true =>
    rw[hn]at hoc
    have hsz:=(Zf6 hn).1
    have hxz:(0:Int)<(x.size:Int):=by omega
    cases hxl:x.data.toList with
    | nil =>
     exfalso
     have h0:x.size=0:=by
      have:x.size=x.data.toList.length:=rfl
      rw[this,hxl];rfl
     omega
    | cons c tl =>
    have hxc:x.data.toList.getD (Int.toNat 0) 0=c:=by rw[hxl];rfl
    dsimp only
    by_cases h46:c=46
    ·subst h46
     have e46:decide (((46:UInt8).toNat:Int)=46)=true:=by decide
     have e45:=e46
     have hbad:false=(true&&!(decide ((46:UInt8)=46)||decide ((46:UInt8)=45))):=by decide
     repeat (first|(apply ZfP (Or.inr ⟨_,rfl⟩);rfl;(intro c h;cases h);(first|(apply Pu_loadB1;rfl;(focus repeat' constructor);rfl)|(apply Pu_lenS;rfl)|(apply Zaw;rfl;rfl;exact h60)|(apply Pu_move;rfl)|(apply Pu_not;rfl)|(apply Pu_pickT;rfl;rfl)|(apply Pu_pickF;rfl;rfl)|(apply Za3;rfl;rfl;decide;exact hxz;exact hxc)|(apply Zan;rfl;rfl;first|exact e46|exact e45)))|(refine Ziz rfl rfl rfl ?_)|(refine Zmp (Or.inr ⟨_,rfl⟩) rfl rfl rfl rfl rfl ?_)|(apply ZfO (Or.inr ⟨_,rfl⟩);(intro d hd;cases hd;rfl);(intro c h;cases h);(intro a w hs;exact ZeL (f:=265) (us:=[]) (cs:=[.pointer (some ⟨b1,0,none⟩),.pointer (some ⟨b2,0,none⟩),.pointer (some ⟨b3,0,none⟩),.pointer (some ⟨b4,0,none⟩)]) hs rfl);(apply Zay (f:=265) (us:=[]) (vs:=[.string x]) (cs:=[.pointer (some ⟨b1,0,none⟩),.pointer (some ⟨b2,0,none⟩),.pointer (some ⟨b3,0,none⟩),.pointer (some ⟨b4,0,none⟩)]) (h:=fun w' _ hH=>hoc hH (by unfold ofO;exact SOA));rfl;rfl;rintro v O' ⟨rfl,rfl⟩))|(refine Zb5 ?_))
     refine thenQ_n ?_
     refine Ziy rfl (fun _=>?_) (fun h=>by cases h)
     refine ZjQ (Zdn ?_)
     apply ZfO (Or.inr ⟨_,rfl⟩);(intro d hd;cases hd);(intro c h;cases h);(intro a w hs;exact Zdm a w)
     (apply Stp_storeNf;rfl;rfl;(focus repeat' constructor);(focus repeat (first|exact Nf.nil|apply Nf.cons));rfl;rfl;rfl;(focus repeat' constructor))
     refine Zb5 ?_
     refine thenQ_n ?_
     refine Zmn ?_
     refine blockQ_r ?_
     exact⟨_,(by repeat' constructor),hbad,fun h=>(by cases h),fun _=>SOA⟩
    have hne46:(c.toNat:Int)≠46:=fun e=>h46 (UInt8.toNat_inj.1 (by show c.toNat=46;omega))
    by_cases h45:c=45
    ·subst h45
     have e46:decide (((45:UInt8).toNat:Int)=46)=false:=by decide
     have e45:decide (((45:UInt8).toNat:Int)=45)=true:=by decide
     have hbad:false=(true&&!(decide ((45:UInt8)=46)||decide ((45:UInt8)=45))):=by decide
     repeat (first|(apply ZfP (Or.inr ⟨_,rfl⟩);rfl;(intro c h;cases h);(first|(apply Pu_loadB1;rfl;(focus repeat' constructor);rfl)|(apply Pu_lenS;rfl)|(apply Zaw;rfl;rfl;exact h60)|(apply Pu_move;rfl)|(apply Pu_not;rfl)|(apply Pu_pickT;rfl;rfl)|(apply Pu_pickF;rfl;rfl)|(apply Za3;rfl;rfl;decide;exact hxz;exact hxc)|(apply Zan;rfl;rfl;first|exact e46|exact e45)))|(refine Ziz rfl rfl rfl ?_)|(refine Zmp (Or.inr ⟨_,rfl⟩) rfl rfl rfl rfl rfl ?_)|(apply ZfO (Or.inr ⟨_,rfl⟩);(intro d hd;cases hd;rfl);(intro c h;cases h);(intro a w hs;exact ZeL (f:=265) (us:=[]) (cs:=[.pointer (some ⟨b1,0,none⟩),.pointer (some ⟨b2,0,none⟩),.pointer (some ⟨b3,0,none⟩),.pointer (some ⟨b4,0,none⟩)]) hs rfl);(apply Zay (f:=265) (us:=[]) (vs:=[.string x]) (cs:=[.pointer (some ⟨b1,0,none⟩),.pointer (some ⟨b2,0,none⟩),.pointer (some ⟨b3,0,none⟩),.pointer (some ⟨b4,0,none⟩)]) (h:=fun w' _ hH=>hoc hH (by unfold ofO;exact SOA));rfl;rfl;rintro v O' ⟨rfl,rfl⟩))|(refine Zb5 ?_))
     refine thenQ_n ?_
     refine Ziy rfl (fun _=>?_) (fun h=>by cases h)
     refine ZjQ (Zdn ?_)
     apply ZfO (Or.inr ⟨_,rfl⟩);(intro d hd;cases hd);(intro c h;cases h);(intro a w hs;exact Zdm a w)
     (apply Stp_storeNf;rfl;rfl;(focus repeat' constructor);(focus repeat (first|exact Nf.nil|apply Nf.cons));rfl;rfl;rfl;(focus repeat' constructor))
     refine Zb5 ?_
     refine thenQ_n ?_
     refine Zmn ?_
     refine blockQ_r ?_
     exact⟨_,(by repeat' constructor),hbad,fun h=>(by cases h),fun _=>SOA⟩
    have hne45:(c.toNat:Int)≠45:=fun e=>h45 (UInt8.toNat_inj.1 (by show c.toNat=45;omega))
    have e46:decide ((c.toNat:Int)=46)=false:=decide_eq_false hne46
    have e45:decide ((c.toNat:Int)=45)=false:=decide_eq_false hne45
    have hgood:true=(true&&!(decide (c=46)||decide (c=45))):=by rw[decide_eq_false h46,decide_eq_false h45];rfl
    repeat (first|(apply ZfP (Or.inr ⟨_,rfl⟩);rfl;(intro c h;cases h);(first|(apply Pu_loadB1;rfl;(focus repeat' constructor);rfl)|(apply Pu_lenS;rfl)|(apply Zaw;rfl;rfl;exact h60)|(apply Pu_move;rfl)|(apply Pu_not;rfl)|(apply Pu_pickT;rfl;rfl)|(apply Pu_pickF;rfl;rfl)|(apply Za3;rfl;rfl;decide;exact hxz;exact hxc)|(apply Zan;rfl;rfl;first|exact e46|exact e45)))|(refine Ziz rfl rfl rfl ?_)|(refine Zmp (Or.inr ⟨_,rfl⟩) rfl rfl rfl rfl rfl ?_)|(apply ZfO (Or.inr ⟨_,rfl⟩);(intro d hd;cases hd;rfl);(intro c h;cases h);(intro a w hs;exact ZeL (f:=265) (us:=[]) (cs:=[.pointer (some ⟨b1,0,none⟩),.pointer (some ⟨b2,0,none⟩),.pointer (some ⟨b3,0,none⟩),.pointer (some ⟨b4,0,none⟩)]) hs rfl);(apply Zay (f:=265) (us:=[]) (vs:=[.string x]) (cs:=[.pointer (some ⟨b1,0,none⟩),.pointer (some ⟨b2,0,none⟩),.pointer (some ⟨b3,0,none⟩),.pointer (some ⟨b4,0,none⟩)]) (h:=fun w' _ hH=>hoc hH (by unfold ofO;exact SOA));rfl;rfl;rintro v O' ⟨rfl,rfl⟩))|(refine Zb5 ?_))
    refine thenQ_n ?_
    refine Ziy rfl (fun h=>by cases h) (fun _=>?_)
    refine ZyM ?_
    refine blockQ_n ?_
    exact⟨_,(by repeat' constructor),hgood,fun _=>SubO.trans (by rw[<- hr];exact .refl _) (.refl _),fun h=>(by cases h)⟩
 ·rintro jump O2 D w4 ⟨hsub,⟨rfl,hz⟩|⟨rfl,hz⟩⟩ hs4
  ·have hs5:St 28 w [(2,.pointer (some ⟨br,0,none⟩))] [Zez D,.blk br [.bool false] 4] a3 w4:=hs4.sub SFA (.cons .here hsub)
   show(Code.seq _ _).wp _ _ _ _
   have key:∀ c Q' Q3,WI Fence.wide (Zkl D) Tryz.prog 28 w c Q' [(2,.pointer (some ⟨br,0,none⟩))] [Zez D,.blk br [.bool false] 4]->(∀ e a' w',Zyf (Zkl D) 28 w Q' e a' w'->Q3 e a' w')->c.wp Tryz.prog Q3 (actD (Zkl D) a3) w4:=fun c Q' Q3 h hq=>(wpIn_wide (n:=0)).1 (wpIn_mono (h.at hs5) hq)
   refine key _ (fun e fr O=>e = .ret/\Sub [(2,.pointer (some ⟨br,0,none⟩))] fr/\SubO [Zez D,.blk br [.bool true] 4] O) _ (ZjQ (Zdn ?_)) ?_
   ·apply ZfO (.inl rfl);(intro d hd;cases hd);(intro c h;cases h);(intro a w hs;exact Zdm a w)
    (apply Stp_storeNf;rfl;rfl;(focus repeat' constructor);(focus repeat (first|exact Nf.nil|apply Nf.cons));rfl;rfl;rfl;(focus repeat' constructor))
    refine Zb5 ?_
    refine thenQ_n ?_
    refine Zmn ?_
    exact⟨rfl,SFA,.refl _⟩
   ·rintro e a' w' ⟨hd,fr',O',hs',rfl,hf,hO⟩
    have h:=ZiT s w (hs'.sub hf hO) rfl (.here) hz.symm
    rw[Ziw hd]at h
    exact h
  ·have hs5:St 28 w [(2,.pointer (some ⟨br,0,none⟩))] [Zez D,.blk br [.bool false] 4] a3 w4:=hs4.sub SFA (.cons .here hsub)
   refine wp_ret ?_
   exact ZiT s w hs5 rfl .here hz.symm
end Go.Proofs.YtpipekfmecikmaaGreatDoor
set_option maxHeartbeats 2000000
namespace Go.Wk
open Go Go.RowKit
end Go.Wk
namespace Go.Proofs.YtpipekfmecikmaaGreatDoor
open Go Go.RowKit Go.Wk
attribute [local irreducible] W RL Does Zat Zaj retQ Calls Pu Stp RD Qy Ay Zak RLI WI
set_option maxRecDepth 20000
end Go.Proofs.YtpipekfmecikmaaGreatDoor
namespace Go.Wk
open Go Go.RowKit
section
variable {F:Fence}{P:Program}{n:Nat}{wr:World}{ops:Array Oper}{K:Fr->List It->Prop}{fr:Fr}{O:List It}{D:List Deferred}
end
end Go.Wk
set_option maxHeartbeats 4000000
set_option maxRecDepth 20000
namespace Go.Proofs.YtpipekfmecikmaaGreatDoor
open Go Go.RowKit Go.Wk
attribute [local irreducible] W RL Does Zat Zaj retQ Calls Pu Stp RD Qy Ay Zak RLI WI
end Go.Proofs.YtpipekfmecikmaaGreatDoor
namespace Go.Proofs.YtpipekfmecikmaaGreatDoor
open Go Go.RowKit Go.Wk
attribute [local irreducible] W RL Does Zat Zaj retQ Calls Pu Stp RD Qy Ay Zak
structure RsSm (l:List DRule):Prop where
 n:l.length<=1000000
 s:∀ r∈l,-1000000000<=r.save/\r.save<=1000000000
 f:∀ r∈l,r.from_<=4611686018427387904
 t:∀ r∈l,-4611686018427387904<=r.to
theorem RsSm.r {l:List DRule}(h:RsSm l):∀ r∈l,-4611686018427387904<=r.save/\r.save<=4611686018427387904:=fun r hr=>by have:=h.s r hr;omega
theorem RsSm.b {l:List DRule}(h:RsSm l):ZyP l:=fun r hr=>⟨h.r r hr,h.f r hr,h.t r hr⟩
end Go.Proofs.YtpipekfmecikmaaGreatDoor
namespace Go.Wk
open Go Go.RowKit
end Go.Wk
namespace Go.Proofs.YtpipekfmecikmaaGreatDoor
open Go Go.RowKit Go.Wk
attribute [local irreducible] W RL Does Zat Zaj retQ Calls Pu Stp RD Qy Ay Zak
end Go.Proofs.YtpipekfmecikmaaGreatDoor
namespace Go.Wk
open Go Go.RowKit
structure ZcP where
 kind:Int
 day:Int
 month:Int
 week:Int
 sec:Int
deriving DecidableEq
def ZcP.enc (x:ZcP):List Value:=[.int .i64 x.kind,.int .i64 x.day,.int .i64 x.month,.int .i64 x.week,.int .i64 x.sec]
def dt0:ZcP:=⟨0,0,0,0,0⟩
def ZbY (n:Int):Bool:=decide (-604799<=n)&&decide (n<=604799)
def ZdX (m:Int)(d:DDay):ZcP × Bool :=
 if d.kind=1 then (⟨1,(if ZaN 2001 m d.day then ZaP 2001 m d.day else 0) - ZaP 2001 1 1+1,0,0,0⟩,ZaN 2001 m d.day)
 else if d.kind=2 then (⟨3,d.week,m,5,0⟩,true)
 else if d.kind=3 then (⟨3,d.week,m,d.day / 7+1,0⟩,decide (d.day % 7=1)&&decide (d.day<29))
 else (dt0,false)
def Ze2 (r:DRule):Bool := !decide (r.to=1048576)||decide (r.month<1)||decide (12<r.month)||!Za8 r.day||!ZaH r.at_
def secD (r:DRule)(off before:Int):Int:=r.at_.sec+(if r.at_.base=2 then off else 0)+(if r.at_.base=2\/r.at_.base=1 then before else 0)
def ZdK (r:DRule)(off before:Int):ZcP × Int :=
 if Ze2 r then (dt0,2)
 else if (ZdX r.month r.day).2=false then (dt0,2)
 else if ZbY off=false\/ZbY before=false then (dt0,3)
 else if ZbY (secD r off before) then ({ (ZdX r.month r.day).1 with sec:=secD r off before },0) else (dt0,3)
def julD (d:Int):Nat->Int
 | 0=>d
 | k+1=>julD d k+lenM 2001 (k+1:Nat)
theorem Zo1 (d:Int):∀ k,julD d k=d+julD 0 k
 | 0=>by simp[julD]
 | k+1=>by rw[julD,Zo1 d k,julD];omega
theorem Zyj:∀ m:Fin 13,1<=m.val->ZaP 2001 m.val 1 - ZaP 2001 1 1=julD 0 (m.val - 1):=by decide +kernel
theorem Zyr (y m d:Int):ZaP y m d=ZaP y m 1+d - 1:=by
 unfold ZaP ZbI
 split <;> omega
theorem Zzs {m d:Int}(h0:1<=m)(h1:m<=12):ZaP 2001 m d - ZaP 2001 1 1+1=julD d (m - 1).toNat:=by
 have h:=Zyj ⟨m.toNat,by omega⟩ (show 1<=m.toNat by omega)
 dsimp only at h
 rw[show((m.toNat:Nat):Int)=m by omega,show m.toNat - 1=(m - 1).toNat by omega]at h
 rw[Zo1,Zyr 2001 m d]
 omega
def bsE (e:DEra)(l:List DRule):Int:=if e.kind=2 then max (Zah l) (-10800) else 0
end Go.Wk
namespace Go.Proofs.YtpipekfmecikmaaGreatDoor
open Go Go.RowKit Go.Wk
attribute [local irreducible] W RL Does Zat Zaj retQ Calls Pu Stp RD Qy Ay Zak
end Go.Proofs.YtpipekfmecikmaaGreatDoor
namespace Go.Wk
open Go Go.RowKit
end Go.Wk
namespace Go.Proofs.YtpipekfmecikmaaGreatDoor
open Go Go.RowKit Go.Wk
attribute [local irreducible] W RL Does Zat Zaj retQ Calls Pu Stp RD Qy Ay Zak
end Go.Proofs.YtpipekfmecikmaaGreatDoor
namespace Go.Proofs.YtpipekfmecikmaaGreatDoor
open Go Go.RowKit Go.Wk
attribute [local irreducible] W RL Does Zat Zaj retQ Calls Pu Stp RD Qy Ay
theorem ZxL {G:Prop}(h:G:=by(first|(apply Pu_indexAddr;rfl;rfl;omega;omega;(first|exact hna))|(apply Pu_loadON;rfl;(first|exact hca);rfl))):G:=h
theorem ZgY (Ar Az Al As:Option Addr)(cr cz cl cs:Nat)(a:DSource)(set:ByteArray)(w:World)(hA:Zar w Ar Az Al As cr cz cl cs a)(hn:a.rules.length<=1000000) :
  Does Tryz.prog 76 [srcV Ar Az Al As cr cz cl cs a,.string set] w (ZiP 68 11 DRule.enc (ofB a.rules set)):=by
 generalize hres:ofB a.rules set=res
 refine Zaa Tryz.func76 rfl rfl rfl rfl ?_
 repeat (first|(refine js ?_;(refine bx ?_;intro bk))|refine walk ?_)
 refine ZdN 68 11 ?_
 refine Zai [(1,_),(2,_),(4,_),(9,_),(10,_)] [_] (fun g:AG DRule=>[(5,.slice g.A g.m g.c),(11,.int .i64 g.k)]) (fun g=>[.row (.slice g.A g.m g.c) 68 11 g.m g.xs]) (fun g=>g.k<=a.rules.length/\g.m=g.acc.length/\g.xs=g.acc.flatMap DRule.enc/\g.m<=g.k/\g.acc++ofB (a.rules.drop g.k) set=res) (fun g=>a.rules.length - g.k) ⟨0,none,0,0,[],[]⟩ ⟨rfl,rfl,rfl,rfl,rfl,rfl,rfl,trivial⟩ (.cons (by repeat' constructor) (.refl _)) ⟨by simp,rfl,rfl,Nat.le_refl _,by simpa using hres⟩ ?_
 rintro⟨k,A,c,m,xs,acc⟩ ⟨hk,hm,hx,hmk,hi⟩
 dsimp only at hk hm hx hmk hi ⊢
 repeat (first|(refine js ?_;(refine bx ?_;intro bk))|refine walk ?_)
 refine Zaf rfl (fun hc=>?_) (fun hc=>?_)
 ·simp only[decide_eq_true_eq,Int.ofNat_lt]at hc
  obtain⟨hna,hca⟩:=hA.r.rd k _ (List.getElem?_eq_getElem hc)
  rw[Zag hc,ofB,List.filter_cons]at hi
  generalize a.rules[k]=r at *
  repeat (first|(apply RL_pu;rfl;exact ZxL)|(refine js ?_;(refine bx ?_;intro bk))|refine walk1 ?_)
  refine Zaf rfl (fun h3=>?_) (fun h3=>?_)
  ·rw[if_pos h3]at hi
   repeat (first|(apply RL_pu;rfl;exact ZxL)|(refine js ?_;(first|(apply ZaT;rfl;rfl;(intro A' c';(focus repeat' constructor));(intro w' _ hO;exact Zcu (hO.of (by repeat' constructor)));rfl;rfl;(simp only[maxLen];omega);omega;intro A' c' hc1 hc2 hc3)|(refine bx ?_;intro bk)))|refine walk1 ?_)
   exact⟨⟨k+1,A',c',m+1,xs++r.enc,acc++[r]⟩,OA,⟨OA,by simp[hm],by rw[hx];exact Zel acc r,OA,by rw[<- hi];simp[ofB]⟩,SFA,SOA⟩
  rw[h3]at hi
  repeat (first|(refine js ?_;(refine bx ?_;intro bk))|refine walk ?_)
  exact⟨⟨k+1,A,c,m,xs,acc⟩,OA,⟨OA,hm,hx,OA,hi⟩,SFA,SOA⟩
 simp only[decide_eq_false_iff_not,Int.ofNat_lt]at hc
 rw[List.drop_eq_nil_of_le (by omega)]at hi
 simp only[ofB,List.filter_nil,List.append_nil]at hi
 subst hi
 repeat (first|(refine js ?_;(refine bx ?_;intro bk))|refine walk ?_)
 exact ret_1 _ [.row (.slice A acc.length c) 68 11 acc.length (acc.flatMap DRule.enc)] (.tmp rfl) (by subst hm hx;exact SOA) ⟨A,c,by rw[hm],rfl⟩
attribute [local irreducible] Zak
end Go.Proofs.YtpipekfmecikmaaGreatDoor
namespace Go.Wk
open Go Go.RowKit
end Go.Wk
namespace Go.Proofs.YtpipekfmecikmaaGreatDoor
open Go Go.RowKit Go.Wk
attribute [local irreducible] W RL Does Zat Zaj retQ Calls Pu Stp RD Qy Ay Zak
end Go.Proofs.YtpipekfmecikmaaGreatDoor
