/- Parts of the proof. -/
import Derived.Test.YtpipekfmecikmaaGreatDoorV12
import Derived.Test.YtpipekfmecikmaaGreatDoorV09
import Derived.Test.YtpipekfmecikmaaGreatDoorV08
import Derived.Test.YtpipekfmecikmaaGreatDoorV07
import Derived.Test.YtpipekfmecikmaaGreatDoorV11
import Derived.Test.YtpipekfmecikmaaGreatDoorV06
set_option maxHeartbeats 4000000
set_option linter.unusedVariables false
set_option linter.unusedSimpArgs false
namespace Go.Proofs.YtpipekfmecikmaaGreatDoor
open Go Go.RowKit Go.Wk Go.Lib
attribute [local irreducible] W RL Does Zat Zaj retQ Calls Pu Stp RD Qy Ay Zak RW
def I64 (n:Int):Prop := -9223372036854775808<=n/\n<=9223372036854775807
theorem ZmX (a b:Int)(ha:I64 a)(hb:I64 b)(w:World):Does Tryz.prog 316 [.int .i64 a,.int .i64 b] w (fun v O=>v = .tuple #[.int .i64 (IntKind.i64.wrap (a+b)),.bool (ZcH (a+b))]/\O=[]):=by
 unfold I64 at ha hb
 have hd:(decide (a<IntKind.i64.wrap (a+b))==decide (0<b))=ZcH (a+b):=by
  unfold ZcH
  have hw:IntKind.i64.wrap (a+b)=if a+b < -9223372036854775808 then a+b+18446744073709551616 else if 9223372036854775807<a+b then a+b - 18446744073709551616 else a+b:=by
   rw[IntKind.wrap_i64]
   repeat' split
   all_goals omega
  rw[hw]
  rw[Bool.eq_iff_iff]
  simp only[beq_iff_eq,Bool.and_eq_true,decide_eq_true_eq]
  rw[decide_eq_decide]
  repeat' split
  all_goals omega
 refine Zaa Tryz.func316 rfl rfl rfl rfl ?_
 repeat (first|(apply RL_pu;rfl;(apply ZkN;rfl;rfl))|refine walk1 ?_)
 exact ret_2 _ _ [] (.tmp rfl) (.tmp rfl) .nil ⟨by rw[hd],rfl⟩
theorem Zsp (A:Option Addr)(c:Nat)(l:List ByteArray)(w:World)(hR:(It.row (.slice A l.length c) 9 1 l.length (l.flatMap ZaU)).sat w)(hn:l.length<=1000000)(hlen:(Lib.join (l.map (·.data.toList)) [47]).length<=140737488355328) :
  Does Tryz.prog 317 [.slice A l.length c,.string ⟨#[47]⟩] w (fun v O=>v = .string ⟨(Lib.join (l.map (·.data.toList)) [47]).toArray⟩/\O=[]):=by
 have hcl:=fun j x hj=>ZaD hR (u:=x) (j:=j) hj
 obtain⟨hxl,⟨hv,_⟩|⟨b,cap,cur,hval,hb0,hg,hmc,hcm,hsz,hcur⟩⟩:=id hR
 ·injection hv with h1 h2 h3
  obtain rfl:=List.eq_nil_of_length_eq_zero h2
  subst h1 h3
  exact Zii ((Any.strings_Join_none Zsq ZlI none 0 ⟨#[47]⟩ w).mono fun e w' ⟨he,hw⟩=>⟨he,hw▸Below.refl _ _⟩)
 injection hval with hA h2 h3
 subst hA h3
 have hbw:b<w.heap.size:=(Array.getElem?_eq_some_iff.1 hg).1
 exact Zii (Any.strings_Join Zsq ZlI b 0 c l ⟨#[47]⟩ w (fun j x hj=>by
  have hg:=Zao (enc:=ZaU) (fun _=>rfl) l j x 0 (.string x) hj rfl
  have:=(hcl _ _ hg).2
  rw[show adr (some (⟨b,0,none⟩:Addr))=⟨b,0,none⟩ from rfl,ZbV]at this
  simpa using this) hbw (by omega) (by omega) hlen)
theorem Zkp:∀ (l:List (List UInt8)),Lib.join l [47]=ZcD l
 | []=>rfl
 | [x]=>by simp[Lib.join,ZcD]
 | x::y::l=>by
  have ih:=Zkp (y::l)
  unfold Lib.join at ih ⊢
  rw[show ZcD (x::y::l)=x++47::ZcD (y::l) from rfl,<- ih]
  simp[List.intercalate,List.intersperse]
def bsE (l:List (List UInt8)):List ByteArray:=l.map fun t=>⟨t.toArray⟩
theorem Zpj (l:List (List UInt8)):(bsE l).map (·.data.toList)=l:=by
 rw[bsE,List.map_map]
 exact(List.map_congr_left fun _ _=>rfl).trans (List.map_id l)
theorem Zht:∀ (l:List (List UInt8)),(∀ t∈l,t.length<=1000)->(ZcD l).length<=1001*l.length
 | [],_=>Nat.le_refl _
 | [x],h=>by have:=h x List.mem_cons_self;simp only[ZcD,List.length_cons,List.length_nil];omega
 | x::y::l,h=>by
  have ih:=Zht (y::l) fun t ht=>h t (List.mem_cons_of_mem _ ht)
  have:=h x List.mem_cons_self
  simp only[ZcD,List.length_append,List.length_cons]at ih ⊢
  omega
def jnV:Option (List (List UInt8))->Value
 | none => .tuple #[.string ByteArray.empty,.int .i64 3]
 | some r => .tuple #[.string ⟨(ZcD r).toArray⟩,.int .i64 0]
structure JG where
 k:Nat
 A:Option Addr
 c:Nat
 m:Nat
 ys:List Value
 acc:List (List UInt8)
theorem Zd5 (n:Int):(ZaL n).length<=7:=by
 unfold ZaL
 split
 ·simp
 ·simp only[List.length_cons,List.length_append,dig2,List.length_nil]
  repeat' split
  all_goals simp
theorem Zt4 {G:Prop}(h:G:=by(first|exact PuI|(apply ZbX;rfl;rfl;exact hb))):G:=h
theorem ZhW (A:Option Addr)(c:Nat)(off:Int)(xs:List Int)(w:World)(hA:RdSl w A c iEnc 1 xs)(hoff:I64 off)(hxs:∀ x∈xs,I64 x)(hn:xs.length<=1000000) :
  Does Tryz.prog 292 [.int .i64 off,.slice A xs.length c] w (fun v O=>v=jnV (ZdE off xs)/\O=[]):=by
 obtain⟨res,hres⟩:∃ res,ZdE off xs=res:=⟨_,rfl⟩
 rw[hres]
 refine Zaa Tryz.func292 rfl rfl rfl rfl ?_
 repeat (first|(refine js ?_;(refine bx ?_;intro bk))|refine walk ?_)
 refine ZdN 9 1 ?_
 refine Zai [(0,.int .i64 off),(12,.slice A xs.length c),(13,.int .i64 xs.length)] [] (fun g:JG=>[(6,.slice g.A g.m g.c),(14,.int .i64 g.k)]) (fun g=>[.row (.slice g.A g.m g.c) 9 1 g.m g.ys])
  (fun g=>g.k<=xs.length/\g.m=g.k/\g.m=g.acc.length/\g.ys=(bsE g.acc).flatMap ZaU/\(∀ t∈g.acc,t.length<=1000)/\(ZdE off (xs.drop g.k)).map (g.acc++·)=res) (fun g=>xs.length - g.k) ⟨0,none,0,0,[],[]⟩ SFA SOA ⟨Nat.zero_le _,rfl,rfl,rfl,nofun,by rw[<- hres];dsimp only;rw[List.drop_zero];cases ZdE off xs <;> rfl⟩ ?_
 rintro⟨k,A1,c1,m,ys,acc⟩ ⟨hk,hmk,hm,hy,ht,hi⟩
 dsimp only at hk hmk hm hy ht hi ⊢
 repeat (first|(refine js ?_;(refine bx ?_;intro bk))|refine walk ?_)
 refine Zaf rfl (fun hc=>?_) (fun hc=>?_)
 ·simp only[decide_eq_true_eq,Int.ofNat_lt]at hc
  obtain⟨hna,hca⟩:=hA.rd k _ (List.getElem?_eq_getElem hc)
  have hxk:=hxs _ (List.getElem_mem hc)
  rw[Zag hc,ZdE]at hi
  generalize xs[k]=x at *
  have hsm:=fun w'=>ZmX off x hoff hxk w'
  have htl:=Zd5 (off+x)
  cases hok:ZcH (off+x) with
  | false =>
   rw[if_pos (.inl hok)]at hi
   subst hi
   rw[hok]at hsm
   have htx:=fun w'=>Zd4 (IntKind.i64.wrap (off+x)) w'
   repeat (first|(apply RL_pu;rfl;exact PuI)|(refine js ?_;(first|(refine Zab (fun w' hw=>hsm w') ?_)|(refine Zab (fun w' hw=>htx w') ?_)|(refine bx ?_;intro bk)))|refine walk1 ?_)
   exact rtB
  | true =>
   have hwr:IntKind.i64.wrap (off+x)=off+x:=Zcd (by simpa[ZcH] using hok)
   rw[hok,hwr]at hsm
   have htx:=fun w'=>Zd4 (off+x) w'
   generalize ZaL (off+x)=tt at *
   by_cases he:tt=[]
   ·rw[if_pos (.inr he)]at hi
    subst hi
    subst he
    have hb:decide ((⟨([]:List UInt8).toArray⟩:ByteArray)=ByteArray.empty)=true:=by decide
    repeat (first|(apply RL_pu;rfl;exact Zt4)|(refine js ?_;(first|(refine Zab (fun w' hw=>hsm w') ?_)|(refine Zab (fun w' hw=>htx w') ?_)|(refine bx ?_;intro bk)))|refine walk1 ?_)
    exact rtB
   ·rw[if_neg (by rintro(h|h);rw[hok]at h;cases h;exact he h)]at hi
    have hb:decide ((⟨tt.toArray⟩:ByteArray)=ByteArray.empty)=false:=decide_eq_false (fun h=>he (by simpa using congrArg (fun b:ByteArray=>b.data.toList) h))
    repeat (first|(apply RL_pu;rfl;exact Zt4)|(refine js ?_;(first|(refine Zab (fun w' hw=>hsm w') ?_)|(refine Zab (fun w' hw=>htx w') ?_)|(apply ZaT;rfl;rfl;(intro A' c';(focus repeat' constructor));(intro w' _ hO;exact Zcu (hO.of (by repeat' constructor)));rfl;rfl;(simp only[maxLen];omega);omega;intro A' c' hc1 hc2 hc3)|(refine bx ?_;intro bk)))|refine walk1 ?_)
    exact⟨⟨k+1,A',c',m+1,ys++[.string ⟨tt.toArray⟩],acc++[tt]⟩,OA,⟨OA,OA,by simp[hm],by rw[hy];simp[bsE,ZaU],by
     intro t htm
     rcases List.mem_append.1 htm with h|h
     ·exact ht t h
     ·simp only[List.mem_singleton]at h;subst h;omega,by
     rw[<- hi]
     cases ZdE off (xs.drop (k+1)) with
     | none=>rfl
     | some r=>simp⟩,SFA,SOA⟩
 ·simp only[decide_eq_false_iff_not,Int.ofNat_lt]at hc
  rw[List.drop_eq_nil_of_le (by omega),ZdE]at hi
  simp only[Option.map_some,List.append_nil]at hi
  subst hi hy
  have hbl:(bsE acc).length=m:=by rw[hm];simp[bsE]
  have hj:=fun w' h=>Zsp A1 c1 (bsE acc) w' h (by omega) (by
   rw[Zpj,Zkp]
   have:=Zht acc ht
   omega)
  rw[Zpj,Zkp,hbl]at hj
  repeat (first|(refine js ?_;(first|(refine ZaM (fun w' hw hO=>hj w' (hO.of (A := .row (.slice A1 m c1) 9 1 m ((bsE acc).flatMap ZaU)) (by repeat' constructor))) ?_)|(refine bx ?_;intro bk)))|refine walk ?_)
  exact rtB
def xpV (x:List UInt8 × Int):Value := .tuple #[.string ⟨x.1.toArray⟩,.int .i64 x.2]
theorem Zf4:∀ (l:List DRule) (x:Int),(∀ r∈l,I64 r.save)->I64 x->I64 (Zb2 l x).1
 | [],_,_,hx=>hx
 | r::l,x,h,hx=>by
  have hr:=h r List.mem_cons_self
  have ht:=fun y=>Zf4 l y fun s hs=>h s (List.mem_cons_of_mem _ hs)
  unfold Zb2
  split
  ·exact ht x hx
  ·split
   ·exact⟨by decide,by decide⟩
   ·exact ht _ hr
def anyS (l:List DRule):Bool:=l.any fun r => !decide (r.save=0)
theorem Zol {G:Prop}(h:G:=by(apply Zan;rfl;rfl;exact hb0)):G:=h
theorem ZkO {G:Prop}(h:G:=by(first|exact Zol|(apply Zan;rfl;rfl;exact hb1))):G:=h
theorem ZnP (e:DEra)(A:Option Addr)(c:Nat)(l:List DRule)(w:World)(hA:RdSl w A c DRule.enc 11 l)(ho:I64 e.off)(hs:I64 e.save)(hr:∀ r∈l,I64 r.save)(hn:l.length<=1000000) :
  Does Tryz.prog 277 [.agg e.enc.toArray,.slice A l.length c] w (fun v O=>v=xpV (ZdH e l)/\O=[]):=by
 have h1:=fun(x:Int) (hx:I64 x) (bk:Nat) w' (hc:Zau w' ⟨bk,0,none⟩ [.int .i64 x])=>ZhW (some ⟨bk,0,none⟩) 1 e.off [x] w' (ZnW (fun _=>rfl) (Nat.le_refl 1) (by decide) hc) ho (fun y hy=>by simp only[List.mem_singleton]at hy;subst hy;exact hx) (by simp)
 have h2:=fun(x:Int) (hx:I64 x) (bk:Nat) w' (hc:Zau w' ⟨bk,0,none⟩ [.int .i64 0,.int .i64 x])=>ZhW (some ⟨bk,0,none⟩) 2 e.off [0,x] w' (ZnW (fun _=>rfl) (Nat.le_refl 2) (by decide) hc) ho (fun y hy=>by
  simp only[List.mem_cons,List.not_mem_nil,or_false]at hy
  rcases hy with rfl|rfl
  ·exact⟨by decide,by decide⟩
  ·exact hx) (by simp)
 have hot:=fun w' (hw:Bel w.heap.size w w')=>Zjf A c l w' (hA.up hw)
 have hx:=Zf4 l 0 hr ⟨by decide,by decide⟩
 rw[show Zb2 l 0=ZbH l from rfl]at hx
 obtain⟨off,kind,save,set,format,til⟩:=e
 unfold ZdH
 dsimp only at ho hs h1 h2 ⊢
 refine Zaa Tryz.func277 rfl rfl rfl rfl ?_
 simp only[DEra.enc]
 by_cases hk0:kind=0
 ·subst hk0
  rw[if_pos rfl]
  have hj1:=h1 0 ⟨by decide,by decide⟩
  generalize ZdE off [0]=j at *
  cases j with
  | none =>
   simp only[jnV]at hj1
   repeat (first|(refine js ?_;(first|(apply Zae (h:=fun w' _ hH=>hj1 _ w' (hH.cells (by repeat' constructor)));rfl;rintro v O' ⟨rfl,rfl⟩)|(refine bx ?_;intro bk)))|refine walk ?_)
   exact rtB
  | some r =>
   simp only[jnV]at hj1
   repeat (first|(refine js ?_;(first|(apply Zae (h:=fun w' _ hH=>hj1 _ w' (hH.cells (by repeat' constructor)));rfl;rintro v O' ⟨rfl,rfl⟩)|(refine bx ?_;intro bk)))|refine walk ?_)
   exact rtB
 have hb0:decide (kind=0)=false:=decide_eq_false hk0
 rw[if_neg hk0]
 by_cases hk1:kind=1
 ·subst hk1
  rw[if_pos rfl]
  have hj1:=h1 save hs
  generalize ZdE off [save]=j at *
  cases j with
  | none =>
   simp only[jnV]at hj1
   repeat (first|(apply RL_pu;rfl;exact Zol)|(refine js ?_;(first|(apply Zae (h:=fun w' _ hH=>hj1 _ w' (hH.cells (by repeat' constructor)));rfl;rintro v O' ⟨rfl,rfl⟩)|(refine bx ?_;intro bk)))|refine walk1 ?_)
   exact rtB
  | some r =>
   simp only[jnV]at hj1
   repeat (first|(apply RL_pu;rfl;exact Zol)|(refine js ?_;(first|(apply Zae (h:=fun w' _ hH=>hj1 _ w' (hH.cells (by repeat' constructor)));rfl;rintro v O' ⟨rfl,rfl⟩)|(refine bx ?_;intro bk)))|refine walk1 ?_)
   exact rtB
 have hb1:decide (kind=1)=false:=decide_eq_false hk1
 rw[if_neg hk1]
 by_cases hk2:kind=2
 ·subst hk2
  rw[if_pos rfl]
  generalize ZbH l=od at *
  obtain⟨ox,ob⟩:=od
  dsimp only at hx hot ⊢
  cases ob with
  | true =>
   have hj1:=h2 ox hx
   rw[if_pos rfl]
   generalize ZdE off [0,ox]=j at *
   cases j with
   | none =>
    simp only[jnV]at hj1
    repeat (first|(apply RL_pu;rfl;exact ZkO)|(refine js ?_;(first|(refine Zab hot ?_)|(apply Zae (h:=fun w' _ hH=>hj1 _ w' (hH.cells (by repeat' constructor)));rfl;rintro v O' ⟨rfl,rfl⟩)|(refine bx ?_;intro bk)))|refine walk1 ?_)
    exact rtB
   | some r =>
    simp only[jnV]at hj1
    repeat (first|(apply RL_pu;rfl;exact ZkO)|(refine js ?_;(first|(refine Zab hot ?_)|(apply Zae (h:=fun w' _ hH=>hj1 _ w' (hH.cells (by repeat' constructor)));rfl;rintro v O' ⟨rfl,rfl⟩)|(refine bx ?_;intro bk)))|refine walk1 ?_)
    exact rtB
  | false =>
   rw[if_neg (by decide)]
   obtain⟨an,han⟩:∃ an,anyS l=an:=⟨_,rfl⟩
   rw[show(l.any fun r => !decide (r.save=0))=an from han]
   repeat (first|(apply RL_pu;rfl;exact ZkO)|(refine js ?_;(first|(refine Zab hot ?_)|(refine bx ?_;intro bk)))|refine walk1 ?_)
   obtain⟨b2,hb2⟩:∃ b2,bk=b2:=⟨_,rfl⟩
   rw[hb2]
   clear hb2 bk
   refine Zai [(2,.pointer (some ⟨b2,0,none⟩)),(45,.slice A l.length c),(46,.int .i64 l.length)] [.blk b2 [.int .i64 off,.int .i64 2,.int .i64 save,.string set,.string format,.bool til.is,.int .i64 til.year,.int .i64 til.month,.int .i64 til.day.kind,.int .i64 til.day.week,.int .i64 til.day.day,.int .i64 til.at_.sec,.int .i64 til.at_.base] 75] (fun k:Nat=>[(47,.int .i64 k)]) (fun _=>[]) (fun k=>k<=l.length/\anyS (l.drop k)=an) (fun k=>l.length - k) 0 SFA SOA ⟨Nat.zero_le _,han⟩ ?_
   rintro k ⟨hk,hi⟩
   repeat (first|(refine js ?_;(refine bx ?_;intro bk))|refine walk ?_)
   refine Zaf rfl (fun hc=>?_) (fun hc=>?_)
   ·simp only[decide_eq_true_eq,Int.ofNat_lt]at hc
    obtain⟨hna,hca⟩:=hA.rd k _ (List.getElem?_eq_getElem hc)
    rw[Zag hc,anyS,List.any_cons]at hi
    generalize l[k]=r at *
    repeat (first|(apply RL_pu;rfl;exact PuI)|(refine js ?_;(refine bx ?_;intro bk))|refine walk1 ?_)
    refine Zaf rfl (fun h3=>?_) (fun h3=>?_)
    ·rw[h3]at hi
     simp only[Bool.true_or]at hi
     subst hi
     rw[if_pos rfl]
     repeat (first|(refine js ?_;(refine bx ?_;intro bk))|refine walk ?_)
     exact rtB
    ·rw[h3,Bool.false_or]at hi
     repeat (first|(refine js ?_;(refine bx ?_;intro bk))|refine walk ?_)
     exact⟨k+1,OA,⟨OA,hi⟩,SFA,SOA⟩
   ·simp only[decide_eq_false_iff_not,Int.ofNat_lt]at hc
    rw[List.drop_eq_nil_of_le (by omega)]at hi
    subst hi
    rw[show anyS []=false from rfl,if_neg (by decide)]
    have hj1:=h1 0 ⟨by decide,by decide⟩
    generalize ZdE off [0]=j at *
    cases j with
    | none =>
     simp only[jnV]at hj1
     repeat (first|(refine js ?_;(first|(apply Zae (h:=fun w' _ hH=>hj1 _ w' (hH.cells (by repeat' constructor)));rfl;rintro v O' ⟨rfl,rfl⟩)|(refine bx ?_;intro bk)))|refine walk ?_)
     exact rtB
    | some r =>
     simp only[jnV]at hj1
     repeat (first|(refine js ?_;(first|(apply Zae (h:=fun w' _ hH=>hj1 _ w' (hH.cells (by repeat' constructor)));rfl;rintro v O' ⟨rfl,rfl⟩)|(refine bx ?_;intro bk)))|refine walk ?_)
     exact rtB
 have hb2:decide (kind=2)=false:=decide_eq_false hk2
 rw[if_neg hk2]
 repeat (first|(apply RL_pu;rfl;(first|exact ZkO|(apply Zan;rfl;rfl;exact hb2)))|(refine js ?_;(refine bx ?_;intro bk))|refine walk1 ?_)
 exact rtB
theorem LibW.up {w w':World}(h:LibW w)(hb:Bel w.heap.size w w'):LibW w' where
 mxl:=by
  obtain⟨m,hm⟩:=h.mxl
  exact⟨m,(hb.cell (World.block_lt_of_cell? w _ hm)).trans hm⟩
 syn:=by
  obtain⟨ev,h1,h2⟩:=h.syn
  exact⟨ev,(hb.cell (World.block_lt_of_cell? w _ h1)).trans h1,h2⟩
theorem Zkq (s:ByteArray)(w:World)(hL:LibW w)(hs:s.size<=1000000000000):Does Tryz.prog 212 [.string s] w (fun v O=>v = .bool (ZaY s.data.toList).isSome/\O=[]):=by
 have hp:=fun w' (hw:Bel w.heap.size w w')=>Zqw s w' (fun w2 hw2=>(hL.up hw).up hw2) hs
 refine Zaa Tryz.func212 rfl rfl rfl rfl ?_
 generalize ZaY s.data.toList=o at *
 cases o with
 | none =>
  simp only[prV]at hp
  repeat (first|(refine js ?_;(refine Zab hp ?_))|refine walk ?_)
  exact rtA
 | some x =>
  simp only[prV]at hp
  repeat (first|(refine js ?_;(refine Zab hp ?_))|refine walk ?_)
  exact rtA
theorem ZfF (f p:List UInt8):(cutV f p).1.length+(cutV f p).2.1.length<=f.length:=by
 unfold cutV
 split
 ·rename_i a b h
  have:=Zl3 h
  simp only[List.length_nil]at this
  dsimp only
  omega
 ·simp
def arV (l:List UInt8):Value := .tuple #[.string ⟨(cutV l [37,115]).1.toArray⟩,.string ⟨(cutV l [37,115]).2.1.toArray⟩,.bool (Zbh l).isSome]
theorem ZzF (l:List UInt8):(Zbh l).isSome=((cutV l [37,115]).2.2&&(Zb3 ((cutV l [37,115]).1++(cutV l [37,115]).2.1)&&decide (((cutV l [37,115]).1++(cutV l [37,115]).2.1).length<=5))):=by
 unfold Zbh cutV
 cases Zbg [37,115] l [] with
 | none=>rfl
 | some ab =>
  obtain⟨a,b⟩:=ab
  dsimp only
  by_cases h1:Zb3 (a++b)=true
  ·by_cases h2:(a++b).length<=5
   ·rw[if_pos ⟨h1,h2⟩,h1,decide_eq_true h2];rfl
   ·rw[if_neg (fun h=>h2 h.2),decide_eq_false h2,Bool.and_false,Bool.and_false];rfl
  ·rw[if_neg (fun h=>h1 h.1),show Zb3 (a++b)=false from by simpa using h1,Bool.false_and,Bool.and_false];rfl
theorem Zy3 {G:Prop}(h:G:=by(first|(apply Zgr;rfl;rfl;exact hss)|(apply Zaz;rfl;rfl;exact hil)|(apply Zew;rfl;rfl;exact h5))):G:=h
theorem ZmO {G G':Prop}(k:G')(h:Hold G'->G:=by intro k9;(first|(apply RL_pu;rfl;exact Zy3)|(refine js ?_;(first|(refine Zab hc ?_)|(refine Zab (fun w' hw=>hix w') ?_)))|refine walk1 ?_);exact k9.out):G:=h ⟨k⟩
theorem Zis (f:ByteArray)(w:World)(hL:LibW w)(hs:f.size<=1000000000):Does Tryz.prog 148 [.string f] w (fun v O=>v=arV f.data.toList/\O=[]):=by
 have hc:=fun w' (hw:Bel w.heap.size w w')=>Zky f ⟨#[37,115]⟩ w' (hL.up hw) (by omega)
 rw[show(⟨#[37,115]⟩:ByteArray).data.toList=[37,115] from rfl]at hc
 have hl:=ZfF f.data.toList [37,115]
 have hfs:f.data.toList.length=f.size:=by simp
 rw[hfs]at hl
 unfold arV
 rw[ZzF]
 obtain⟨ab,hab⟩:∃ ab,cutV f.data.toList [37,115]=ab:=⟨_,rfl⟩
 rw[hab]at hc hl ⊢
 obtain⟨a,b,ok⟩:=ab
 dsimp only at hc hl ⊢
 have hix:=fun w'=>Zvk (⟨a.toArray⟩++⟨b.toArray⟩) w'
 have hd:((⟨a.toArray⟩:ByteArray)++⟨b.toArray⟩).data.toList=a++b:=by simp
 have hs1:(⟨a.toArray⟩:ByteArray).size=a.length:=by show a.toArray.size=a.length;simp
 have hs2:(⟨b.toArray⟩:ByteArray).size=b.length:=by show b.toArray.size=b.length;simp
 have hsz:((⟨a.toArray⟩:ByteArray)++⟨b.toArray⟩).size=(a++b).length:=by rw[ByteArray.size_append,hs1,hs2,List.length_append]
 have h1:=Zss ((⟨a.toArray⟩:ByteArray)++⟨b.toArray⟩) ((⟨a.toArray⟩:ByteArray)++⟨b.toArray⟩).size 0 (by omega)
 rw[List.drop_zero,hd]at h1
 have hil:decide (idxFunc (fun r=>Zdg (r:Int)) true ((⟨a.toArray⟩:ByteArray)++⟨b.toArray⟩)<0)=Zb3 (a++b):=by
  rw[Bool.eq_iff_iff,decide_eq_true_eq]
  exact h1
 have h5:decide (((((⟨a.toArray⟩:ByteArray)++⟨b.toArray⟩).size:Nat):Int)<=5)=decide ((a++b).length<=5):=by
  rw[decide_eq_decide]
  omega
 have hss:(⟨a.toArray⟩:ByteArray).size+(⟨b.toArray⟩:ByteArray).size<=9223372036854775807:=by omega
 clear h1
 generalize idxFunc (fun r=>Zdg (r:Int)) true ((⟨a.toArray⟩:ByteArray)++⟨b.toArray⟩)=i at *
 generalize Zb3 (a++b)=lt at *
 generalize decide ((a++b).length<=5)=l5 at *
 refine Zaa Tryz.func148 rfl rfl rfl rfl ?_
 cases ok with
 | false =>
  repeat refine ZmO ?_
  exact Zck _ _ _ [] (.tmp rfl) (.tmp rfl) (.tmp rfl) .nil ⟨rfl,rfl⟩
 | true =>
  cases lt with
  | false =>
   repeat refine ZmO ?_
   exact Zck _ _ _ [] (.tmp rfl) (.tmp rfl) (.tmp rfl) .nil ⟨rfl,rfl⟩
  | true =>
   repeat refine ZmO ?_
   exact Zck _ _ _ [] (.tmp rfl) (.tmp rfl) (.tmp rfl) .nil ⟨rfl,rfl⟩
def Zf7 (ab0 ok ab1 ab2 ar q4 i0 i1 i2:Bool):Int:=if ab0 then 1 else if ok&&(ab1&&ab2) then 2 else if ar then 3 else if q4 then 4 else if i0||(ok&&(i1&&i2)) then 5 else 0
theorem Zg0 (l:List UInt8):Za6 l=Zf7 (Zbq l) (cutV l [47]).2.2 (Zbq (cutV l [47]).1) (Zbq (cutV l [47]).2.1) (Zbh l).isSome (decide (l=[37,122])) (ZaY l).isSome (ZaY (cutV l [47]).1).isSome (ZaY (cutV l [47]).2.1).isSome:=by
 unfold Za6 Zf7 cutV
 cases Zbg [47] l [] with
 | none=>simp
 | some ab=>simp
theorem ZhV (f:ByteArray)(w:World)(hL:LibW w)(hs:f.size<=1000000000):Does Tryz.prog 147 [.string f] w (fun v O=>v = .int .i64 (Za6 f.data.toList)/\O=[]):=by
 have hc:=fun w' (hw:Bel w.heap.size w w')=>Zky f ⟨#[47]⟩ w' (hL.up hw) (by omega)
 rw[show(⟨#[47]⟩:ByteArray).data.toList=[47] from rfl]at hc
 have hl:=ZfF f.data.toList [47]
 have hfs:f.data.toList.length=f.size:=by simp
 rw[hfs]at hl
 have har:=fun w' (hw:Bel w.heap.size w w')=>Zis f w' (hL.up hw) hs
 unfold arV at har
 rw[Zg0]
 have hq:decide (f=⟨#[37,122]⟩)=decide (f.data.toList=[37,122]):=by
  rw[decide_eq_decide]
  exact⟨fun h=>by rw[h],fun h=>by
   apply ByteArray.ext
   rw[<- Array.toArray_toList (xs:=f.data),h]⟩
 obtain⟨ab,hab⟩:∃ ab,cutV f.data.toList [47]=ab:=⟨_,rfl⟩
 rw[hab]at hc hl ⊢
 obtain⟨a,b,ok⟩:=ab
 dsimp only at hc hl ⊢
 have hs1:(⟨a.toArray⟩:ByteArray).size=a.length:=by show a.toArray.size=a.length;simp
 have hs2:(⟨b.toArray⟩:ByteArray).size=b.length:=by show b.toArray.size=b.length;simp
 have a0:=fun w'=>ZfM f (by omega) w'
 have a1:=fun w'=>ZfM ⟨a.toArray⟩ (by omega) w'
 have a2:=fun w'=>ZfM ⟨b.toArray⟩ (by omega) w'
 have i0:=fun w' (hw:Bel w.heap.size w w')=>Zkq f w' (hL.up hw) (by omega)
 have i1:=fun w' (hw:Bel w.heap.size w w')=>Zkq ⟨a.toArray⟩ w' (hL.up hw) (by omega)
 have i2:=fun w' (hw:Bel w.heap.size w w')=>Zkq ⟨b.toArray⟩ w' (hL.up hw) (by omega)
 rw[show ZgU f=Zbq f.data.toList from rfl]at a0
 rw[show ZgU ⟨a.toArray⟩=Zbq a from rfl]at a1
 rw[show ZgU ⟨b.toArray⟩=Zbq b from rfl]at a2
 rw[show(⟨a.toArray⟩:ByteArray).data.toList=a from rfl]at i1
 rw[show(⟨b.toArray⟩:ByteArray).data.toList=b from rfl]at i2
 generalize Zbq f.data.toList=A0 at *
 generalize Zbq a=A1 at *
 generalize Zbq b=A2 at *
 generalize (ZaY f.data.toList).isSome=I0 at *
 generalize (ZaY a).isSome=I1 at *
 generalize (ZaY b).isSome=I2 at *
 generalize (Zbh f.data.toList).isSome=ar at *
 generalize decide (f.data.toList=[37,122])=q4 at *
 refine Zaa Tryz.func147 rfl rfl rfl rfl ?_
 repeat' (first|(apply RL_pu;rfl;(apply ZbX;rfl;rfl;exact hq))|(refine js ?_;(first|(refine Zab hc ?_)|(refine Zab har ?_)|(refine Zab (fun w' hw=>a0 w') ?_)|(refine Zab (fun w' hw=>a1 w') ?_)|(refine Zab (fun w' hw=>a2 w') ?_)|(refine Zab i0 ?_)|(refine Zab i1 ?_)|(refine Zab i2 ?_)))|refine walk1 ?_|refine und ?_|(refine Zam rfl rfl rfl (fun hc=>?_) (fun hc=>?_))|(refine Zas rfl rfl rfl (fun hc=>?_) (fun hc=>?_))|(refine Zaf rfl (fun hc=>?_) (fun hc=>?_)))
 all_goals first|(refine ret_1 _ [] (.tmp rfl) .nil ⟨?_,rfl⟩;first|rfl|(simp only[*,Bool.true_and,Bool.false_and,Bool.true_or,Bool.false_or,Bool.not_true,Bool.not_false];done)|(simp_all [Zf7];done)|(simp_all [Zf7];omega)|(simp_all [Zf7];rw[Bool.eq_iff_iff];simp;omega))|(exfalso;simp_all [Zf7];done)|(exfalso;simp_all [Zf7];omega)|(exfalso;omega)
end Go.Proofs.YtpipekfmecikmaaGreatDoor
namespace Go.Wk
open Go Go.RowKit
end Go.Wk
namespace Go.Proofs.YtpipekfmecikmaaGreatDoor
open Go Go.RowKit Go.Wk Go.Lib
attribute [local irreducible] W RL Does Zat Zaj retQ Calls Pu Stp RD Qy Ay Zak RW
def ptsV:Option (List UInt8 × List UInt8)->Value
 | none => .tuple #[.string ByteArray.empty,.string ByteArray.empty,.bool false]
 | some (a,b) => .tuple #[.string ⟨a.toArray⟩,.string ⟨b.toArray⟩,.bool true]
theorem Zfv (l:List UInt8):ZdU l=if (cutV l [47]).2.2=true/\(Za6 l=2\/Za6 l=5) then some ((cutV l [47]).1,(cutV l [47]).2.1) else none:=by
 unfold ZdU cutV
 cases Zbg [47] l [] with
 | none=>simp
 | some ab=>simp
theorem Zkn (l:List UInt8)(h:Za6 l=3):Zbh l=some ((cutV l [37,115]).1,(cutV l [37,115]).2.1):=by
 have hs:(Zbh l).isSome=true:=by
  rw[Zg0]at h
  unfold Zf7 at h
  cases hx:(Zbh l).isSome with
  | true=>rfl
  | false =>
   rw[hx]at h
   exfalso
   revert h
   repeat' split
   all_goals first|decide|(intro h;omega)|simp_all
 unfold Zbh cutV at *
 cases hc:Zbg [37,115] l [] with
 | none=>rw[hc]at hs;cases hs
 | some ab =>
  rw[hc]at hs
  dsimp only at hs ⊢
  split at hs
  ·rename_i h1;rw[if_pos h1]
  ·cases hs
theorem Zuq {G:Prop}(h:G:=by(first|(apply Zhd;rfl;rfl;exact hw)|(apply Zaw;rfl;rfl;exact b1)|(apply Zaw;rfl;rfl;exact b2)|(apply Zal;rfl;rfl;exact b3))):G:=h
theorem Zup {G:Prop}(h:G:=by(first|(apply Zhd;rfl;rfl;exact hw)|(apply Zaw;rfl;rfl;exact b1)|(apply Zaw;rfl;rfl;exact b2))):G:=h
theorem Ziv (a b:Int)(ha:I64 a)(hb:I64 b)(w:World):Does Tryz.prog 151 [.int .i64 a,.int .i64 b] w (fun v O=>v = .tuple #[.int .i64 (if ZcH (a+b) then a+b else 0),.bool (ZcH (a+b))]/\O=[]):=by
 unfold I64 at ha hb
 have hw:IntKind.i64.wrap (a+b)=if a+b < -9223372036854775808 then a+b+18446744073709551616 else if 9223372036854775807<a+b then a+b - 18446744073709551616 else a+b:=by
  rw[IntKind.wrap_i64]
  repeat' split
  all_goals omega
 refine Zaa Tryz.func151 rfl rfl rfl rfl ?_
 by_cases hlo:a+b < -9223372036854775808
 ·rw[if_pos hlo]at hw
  have hok:ZcH (a+b)=false:=by unfold ZcH;rw[decide_eq_false (by omega)];rfl
  have b1:decide (a<a+b+18446744073709551616)=true:=decide_eq_true (by omega)
  have b2:decide (0<b)=false:=decide_eq_false (by omega)
  have b3:(!decide (b=0))=true:=by rw[decide_eq_false (by omega)];rfl
  rw[hok]
  repeat (first|(apply RL_pu;rfl;exact Zuq)|refine walk1 ?_)
  exact rtB
 rw[if_neg hlo]at hw
 by_cases hhi:9223372036854775807<a+b
 ·rw[if_pos hhi]at hw
  have hok:ZcH (a+b)=false:=by unfold ZcH;rw[decide_eq_false (show ¬ a+b<=9223372036854775807 by omega),Bool.and_false]
  have b1:decide (a<a+b - 18446744073709551616)=false:=decide_eq_false (by omega)
  have b2:decide (0<b)=true:=decide_eq_true (by omega)
  have b3:(!decide (b=0))=true:=by rw[decide_eq_false (by omega)];rfl
  rw[hok]
  repeat (first|(apply RL_pu;rfl;exact Zuq)|refine walk1 ?_)
  exact rtB
 rw[if_neg hhi]at hw
 have hok:ZcH (a+b)=true:=by unfold ZcH;rw[decide_eq_true (by omega),decide_eq_true (by omega)];rfl
 rw[hok,if_pos rfl]
 by_cases hp:0<b
 ·have b1:decide (a<a+b)=true:=decide_eq_true (by omega)
  have b2:decide (0<b)=true:=decide_eq_true hp
  repeat (first|(apply RL_pu;rfl;exact Zup)|refine walk1 ?_)
  exact rtB
 ·have b1:decide (a<a+b)=false:=decide_eq_false (by omega)
  have b2:decide (0<b)=false:=decide_eq_false hp
  repeat (first|(apply RL_pu;rfl;exact Zup)|refine walk1 ?_)
  exact rtB
theorem Zuo {G:Prop}(h:G:=by(apply Zal;rfl;rfl;exact b2)):G:=h
theorem Zqt (f:ByteArray)(w:World)(hL:LibW w)(hs:f.size<=1000000000):Does Tryz.prog 146 [.string f] w (fun v O=>v=ptsV (ZdU f.data.toList)/\O=[]):=by
 have hc:=fun w' (hw:Bel w.heap.size w w')=>Zky f ⟨#[47]⟩ w' (hL.up hw) (by omega)
 rw[show(⟨#[47]⟩:ByteArray).data.toList=[47] from rfl]at hc
 have hk:=fun w' (hw:Bel w.heap.size w w')=>ZhV f w' (hL.up hw) hs
 rw[Zfv]
 generalize Za6 f.data.toList=K at *
 generalize cutV f.data.toList [47]=ab at *
 obtain⟨a,b,ok⟩:=ab
 dsimp only at hc ⊢
 refine Zaa Tryz.func146 rfl rfl rfl rfl ?_
 cases ok with
 | false =>
  rw[if_neg (by rintro⟨h,_⟩;cases h)]
  repeat (first|refine und ?_|(refine js ?_;(first|(refine Zab hc ?_)|(refine Zab hk ?_)))|refine walk ?_)
  exact Zck _ _ _ [] (.tmp rfl) (.tmp rfl) (.tmp rfl) .nil ⟨rfl,rfl⟩
 | true =>
  by_cases h2:K=2
  ·subst h2
   rw[if_pos ⟨rfl,.inl rfl⟩]
   repeat (first|(refine js ?_;(first|(refine Zab hc ?_)|(refine Zab hk ?_)))|refine walk ?_)
   exact Zck _ _ _ [] (.tmp rfl) (.tmp rfl) (.tmp rfl) .nil ⟨rfl,rfl⟩
  ·have b2:(!decide (K=2))=true:=by rw[decide_eq_false h2];rfl
   by_cases h5:K=5
   ·subst h5
    rw[if_pos ⟨rfl,.inr rfl⟩]
    repeat (first|(apply RL_pu;rfl;exact Zuo)|(refine js ?_;(first|(refine Zab hc ?_)|(refine Zab hk ?_)))|refine walk1 ?_)
    exact Zck _ _ _ [] (.tmp rfl) (.tmp rfl) (.tmp rfl) .nil ⟨rfl,rfl⟩
   ·have b5:(!decide (K=5))=true:=by rw[decide_eq_false h5];rfl
    rw[if_neg (by rintro⟨_,h|h⟩;exact h2 h;exact h5 h)]
    repeat (first|(apply RL_pu;rfl;(first|exact Zuo|(apply Zal;rfl;rfl;exact b5)))|(refine js ?_;(first|(refine Zab hc ?_)|(refine Zab hk ?_)))|refine walk1 ?_)
    exact Zck _ _ _ [] (.tmp rfl) (.tmp rfl) (.tmp rfl) .nil ⟨rfl,rfl⟩
theorem ZeM (s:ByteArray):(⟨s.data.toList.toArray⟩:ByteArray)=s:=by
 apply ByteArray.ext
 simp
theorem Zun {G:Prop}(h:G:=by(apply Zan;rfl;rfl;exact hb0)):G:=h
theorem ZiJ {G:Prop}(h:G:=by(first|(apply Zgr;rfl;rfl;exact q1)|(apply Zgr;rfl;rfl;exact q2))):G:=h
theorem Zoa {G:Prop}(h:G:=by first|(apply Qy_y;rfl;exact ZiJ)|exact QyA):G:=h
theorem ZkJ {G:Prop}(h:G:=by repeat (first|exact QF.nil|(apply QF.mk;rfl;rfl;decide +kernel;exact Zoa))):G:=h
theorem ZkQ {G:Prop}(h:G:=by(apply Zcc;rfl;rfl;exact hb)):G:=h
theorem Zum {G:Prop}(h:G:=by(first|(apply Zan;rfl;rfl;exact hb3)|(apply Zan;rfl;rfl;exact hb4)|(apply Zan;rfl;rfl;exact hb1)|(apply Zan;rfl;rfl;exact hb5))):G:=h
theorem Zgb (f letter:ByteArray)(off save:Int)(w:World)(hL:LibW w)(hs:f.size<=1000000000)(hl:letter.size<=1000000000)(ho:I64 off)(hv:I64 save) :
  Does Tryz.prog 99 [.string f,.int .i64 off,.agg #[.int .i64 save,.string letter]] w (fun v O=>v=xpV (ZeW f.data.toList off save letter.data.toList)/\O=[]):=by
 have hp:=fun w' (hw:Bel w.heap.size w w')=>Zqt f w' (hL.up hw) hs
 have hk:=fun w' (hw:Bel w.heap.size w w')=>ZhV f w' (hL.up hw) hs
 have har:=fun w' (hw:Bel w.heap.size w w')=>Zis f w' (hL.up hw) hs
 have hsm:=fun w'=>Ziv off save ho hv w'
 have h3:=Zkn f.data.toList
 have hcl:=ZfF f.data.toList [37,115]
 have hfs:f.data.toList.length=f.size:=by simp
 rw[hfs]at hcl
 have hfb:=ZeM f
 unfold arV at har
 unfold ZeW
 refine Zaa Tryz.func99 rfl rfl rfl rfl ?_
 cases hP:ZdU f.data.toList with
 | some ab =>
  obtain⟨a,b⟩:=ab
  rw[hP]at hp
  simp only[ptsV]at hp
  dsimp only
  by_cases h0:save=0
  ·subst h0
   rw[if_pos rfl]
   repeat (first|refine walk ?_|(refine jg ?_;(try intro F);(first|(refine Zab hp ?_)|(refine bx ?_;intro bk));refine fin ?_)|(refine jn ?_;(try intro F);(first|(refine bx ?_;intro bk)|(apply Zac;exact PuA));refine fin ?_))
   exact rtB
  ·rw[if_neg h0]
   have hb0:decide (save=0)=false:=decide_eq_false h0
   repeat (first|(apply RL_pu;rfl;exact Zun)|(apply RD_Q;rfl;rfl;decide +kernel;rfl;rfl;exact QyFmtC4)|refine walk1 ?_|(refine jg ?_;(try intro F);(first|(refine Zab hp ?_)|(refine bx ?_;intro bk));first|refine⟨_,EndsA,QFFmtC4,?_⟩|refine fin ?_)|(refine jn ?_;(try intro F);(first|(refine bx ?_;intro bk)|(apply Zac;first|exact Zun|exact PuA));first|refine⟨_,EndsA,QFFmtC4,?_⟩|refine fin ?_))
   exact rtB
 | none =>
 rw[hP]at hp
 simp only[ptsV]at hp
 dsimp only
 generalize Za6 f.data.toList=K at *
 by_cases hK3:K=3
 ·subst hK3
  rw[if_pos rfl,h3 rfl]
  dsimp only
  generalize (cutV f.data.toList [37,115]).1=a at *
  generalize (cutV f.data.toList [37,115]).2.1=b at *
  have hs1:(⟨a.toArray⟩:ByteArray).size=a.length:=by show a.toArray.size=a.length;simp
  have hs2:(⟨b.toArray⟩:ByteArray).size=b.length:=by show b.toArray.size=b.length;simp
  have q1:(⟨a.toArray⟩:ByteArray).size+letter.size<=9223372036854775807:=by omega
  have q2:((⟨a.toArray⟩:ByteArray)++letter).size+(⟨b.toArray⟩:ByteArray).size<=9223372036854775807:=by rw[ByteArray.size_append];omega
  have q3:(((⟨a.toArray⟩:ByteArray)++letter++⟨b.toArray⟩).size:Int)<=9223372036854775807:=by rw[ByteArray.size_append,ByteArray.size_append];omega
  have hx:((⟨a.toArray⟩:ByteArray)++letter++⟨b.toArray⟩).data.toList=a++letter.data.toList++b:=by simp
  have hXb:=ZeM ((⟨a.toArray⟩:ByteArray)++letter++⟨b.toArray⟩)
  have hab:=fun w'=>ZfM ((⟨a.toArray⟩:ByteArray)++letter++⟨b.toArray⟩) q3 w'
  rw[show ZgU ((⟨a.toArray⟩:ByteArray)++letter++⟨b.toArray⟩)=Zbq (a++letter.data.toList++b) from by unfold ZgU Zbq;rw[hx]]at hab
  rw[hx]at hXb
  have hri:=fun w'=>Zf2 ((⟨a.toArray⟩:ByteArray)++letter++⟨b.toArray⟩) (Zbq (a++letter.data.toList++b)) w'
  cases hok:Zbq (a++letter.data.toList++b) with
  | false =>
   rw[hok]at hab hri
   rw[if_neg (by decide)]
   repeat (first|(apply RL_pu;rfl;exact ZiJ)|(apply RD_Q;rfl;rfl;decide +kernel;rfl;rfl;exact Zoa)|refine walk1 ?_|(refine jg ?_;(try intro F);(first|(refine Zab hp ?_)|(refine Zab hk ?_)|(refine Zab har ?_)|(refine Zab (fun w' hw=>hab w') ?_)|(refine Zab (fun w' hw=>hri w') ?_)|(refine bx ?_;intro bk));first|refine⟨_,EndsA,ZkJ,?_⟩|refine fin ?_)|(refine jn ?_;(try intro F);(first|(refine bx ?_;intro bk)|(apply Zac;first|exact ZiJ|exact PuA));first|refine⟨_,EndsA,ZkJ,?_⟩|refine fin ?_))
   exact rtB
  | true =>
   rw[hok]at hab hri
   rw[if_pos rfl]
   unfold xpV
   dsimp only
   rw[hXb]
   repeat (first|(apply RL_pu;rfl;exact ZiJ)|(apply RD_Q;rfl;rfl;decide +kernel;rfl;rfl;exact Zoa)|refine walk1 ?_|(refine jg ?_;(try intro F);(first|(refine Zab hp ?_)|(refine Zab hk ?_)|(refine Zab har ?_)|(refine Zab (fun w' hw=>hab w') ?_)|(refine Zab (fun w' hw=>hri w') ?_)|(refine bx ?_;intro bk));first|refine⟨_,EndsA,ZkJ,?_⟩|refine fin ?_)|(refine jn ?_;(try intro F);(first|(refine bx ?_;intro bk)|(apply Zac;first|exact ZiJ|exact PuA));first|refine⟨_,EndsA,ZkJ,?_⟩|refine fin ?_))
   exact rtB
 have hb3:decide (K=3)=false:=decide_eq_false hK3
 rw[if_neg hK3]
 by_cases hK4:K=4
 ·subst hK4
  rw[if_pos rfl]
  cases hok:ZcH (off+save) with
  | false =>
   rw[hok]at hsm
   rw[if_neg (by rintro⟨h,_⟩;cases h)]
   have htx:=fun w'=>Zd4 0 w'
   have hr2:=fun w'=>Zf2 ⟨(ZaL 0).toArray⟩ false w'
   rw[if_neg (by decide)]at hsm
   repeat (first|refine walk ?_|(refine jg ?_;(try intro F);(first|(refine Zab hp ?_)|(refine Zab hk ?_)|(refine Zab (fun w' hw=>hsm w') ?_)|(refine Zab (fun w' hw=>htx w') ?_)|(refine Zab (fun w' hw=>hr2 w') ?_)|(refine bx ?_;intro bk));refine fin ?_)|(refine jn ?_;(try intro F);(first|(refine bx ?_;intro bk)|(apply Zac;exact PuA));refine fin ?_))
   exact rtB
  | true =>
   rw[hok,if_pos rfl]at hsm
   have htx:=fun w'=>Zd4 (off+save) w'
   have hri:=fun ok w'=>Zf2 ⟨(ZaL (off+save)).toArray⟩ ok w'
   by_cases he:ZaL (off+save)=[]
   ·rw[if_neg (by rintro⟨_,h⟩;exact h he)]
    have hr2:=hri false
    have hb:(!decide ((⟨(ZaL (off+save)).toArray⟩:ByteArray)=ByteArray.empty))=false:=by rw[he];decide
    repeat (first|(apply RL_pu;rfl;exact ZkQ)|(apply RD_Q;rfl;rfl;decide +kernel;rfl;rfl;exact QyFmtC6)|refine walk1 ?_|(refine jg ?_;(try intro F);(first|(refine Zab hp ?_)|(refine Zab hk ?_)|(refine Zab (fun w' hw=>hsm w') ?_)|(refine Zab (fun w' hw=>htx w') ?_)|(refine Zab (fun w' hw=>hr2 w') ?_)|(refine bx ?_;intro bk));first|refine⟨_,EndsA,QFFmtC6,?_⟩|refine fin ?_)|(refine jn ?_;(try intro F);(first|(refine bx ?_;intro bk)|(apply Zac;first|exact ZkQ|exact PuA));first|refine⟨_,EndsA,QFFmtC6,?_⟩|refine fin ?_))
    exact rtB
   ·rw[if_pos ⟨rfl,he⟩]
    have hr2:=hri true
    have hb:(!decide ((⟨(ZaL (off+save)).toArray⟩:ByteArray)=ByteArray.empty))=true:=by
     rw[decide_eq_false (fun h=>he (by simpa using congrArg (fun b:ByteArray=>b.data.toList) h))];rfl
    repeat (first|(apply RL_pu;rfl;exact ZkQ)|(apply RD_Q;rfl;rfl;decide +kernel;rfl;rfl;exact QyFmtC6)|refine walk1 ?_|(refine jg ?_;(try intro F);(first|(refine Zab hp ?_)|(refine Zab hk ?_)|(refine Zab (fun w' hw=>hsm w') ?_)|(refine Zab (fun w' hw=>htx w') ?_)|(refine Zab (fun w' hw=>hr2 w') ?_)|(refine bx ?_;intro bk));first|refine⟨_,EndsA,QFFmtC6,?_⟩|refine fin ?_)|(refine jn ?_;(try intro F);(first|(refine bx ?_;intro bk)|(apply Zac;first|exact ZkQ|exact PuA));first|refine⟨_,EndsA,QFFmtC6,?_⟩|refine fin ?_))
    exact rtB
 have hb4:decide (K=4)=false:=decide_eq_false hK4
 rw[if_neg hK4]
 by_cases hK1:K=1
 ·subst hK1
  rw[if_pos (.inl rfl)]
  unfold xpV
  dsimp only
  rw[hfb]
  repeat (first|refine walk ?_|(refine jg ?_;(try intro F);(first|(refine Zab hp ?_)|(refine Zab hk ?_)|(refine bx ?_;intro bk));refine fin ?_)|(refine jn ?_;(try intro F);(first|(refine bx ?_;intro bk)|(apply Zac;exact PuA));refine fin ?_))
  exact rtB
 have hb1:decide (K=1)=false:=decide_eq_false hK1
 by_cases hK5:K=5
 ·subst hK5
  rw[if_pos (.inr rfl)]
  unfold xpV
  dsimp only
  rw[hfb]
  repeat (first|refine walk ?_|(refine jg ?_;(try intro F);(first|(refine Zab hp ?_)|(refine Zab hk ?_)|(refine bx ?_;intro bk));refine fin ?_)|(refine jn ?_;(try intro F);(first|(refine bx ?_;intro bk)|(apply Zac;exact PuA));refine fin ?_))
  exact rtB
 have hb5:decide (K=5)=false:=decide_eq_false hK5
 rw[if_neg (by rintro(h|h);exact hK1 h;exact hK5 h)]
 repeat (first|(apply RL_pu;rfl;exact Zum)|(apply RD_Q;rfl;rfl;decide +kernel;rfl;rfl;exact QyFmtC7)|refine walk1 ?_|(refine jg ?_;(try intro F);(first|(refine Zab hp ?_)|(refine Zab hk ?_)|(refine bx ?_;intro bk));first|refine⟨_,EndsA,QFFmtC7,?_⟩|refine fin ?_)|(refine jn ?_;(try intro F);(first|(refine bx ?_;intro bk)|(apply Zac;first|exact Zum|exact PuA));first|refine⟨_,EndsA,QFFmtC7,?_⟩|refine fin ?_))
 exact rtB
end Go.Proofs.YtpipekfmecikmaaGreatDoor
namespace Go.Proofs.YtpipekfmecikmaaGreatDoor
open Go Go.RowKit Go.Wk
attribute [local irreducible] W RL Does Zat Zaj retQ Calls Pu Stp RD Qy Ay Zak
def Zsu:List Value:=[fnV 376,fnV 377,fnV 378,fnV 379]
def FtG (w:World):Prop:=Zau w ⟨0,1,none⟩ Zsu
theorem FtG.up {w w':World}(h:FtG w)(hb:Bel w.heap.size w w'):FtG w':=Zau.up h hb (Nat.le_refl _)
def Zl2 (k:Int):FuncId:=if k=1 then 376 else if k=2 then 377 else if k=3 then 378 else 379
def dtV (x:ZcP × Bool):Value := .tuple #[.agg x.1.enc.toArray,.bool x.2]
theorem ZdF (n:Int)(w:World):Does Tryz.prog 74 [.int .i64 n] w (fun v O=>v = .bool (ZbY n)/\O=[]):=by
 refine Zaa Tryz.func74 rfl rfl rfl rfl ?_
 repeat' (first|refine walk ?_|refine und ?_|(refine Zam rfl rfl rfl (fun hc=>?_) (fun hc=>?_))|(refine Zas rfl rfl rfl (fun hc=>?_) (fun hc=>?_))|(refine Zaf rfl (fun hc=>?_) (fun hc=>?_)))
 all_goals first|(refine ret_1 _ [] (.tmp rfl) .nil ⟨?_,rfl⟩;first|rfl|(simp only[*,Bool.true_and,Bool.false_and,Bool.true_or,Bool.false_or,Bool.not_true,Bool.not_false];done)|(simp_all [ZbY];done)|(simp_all [ZbY];omega)|(simp_all [ZbY];rw[Bool.eq_iff_iff];simp;omega))|(exfalso;simp_all [ZbY];done)|(exfalso;simp_all [ZbY];omega)|(exfalso;omega)
theorem Zvt (m wk dd:Int)(hd:0<=dd/\dd<=31)(w:World)(hG:Glob w) :
  Does Tryz.prog 376 [.int .i64 m,.agg #[.int .i64 1,.int .i64 wk,.int .i64 dd]] w (fun v O=>v=dtV (ZdX m ⟨1,wk,dd⟩)/\O=[]):=by
 have e1:=Zeo 2001 1 1
 rw[if_pos (by decide),if_pos (by decide)]at e1
 have e2:=Zeo 2001 m dd
 have hb:ZaN 2001 m dd=true->_:=fun h=>Zg4 (y:=2001) (m:=m) (d:=dd) h
 have e:ZdX m ⟨1,wk,dd⟩=(⟨1,(if ZaN 2001 m dd then ZaP 2001 m dd else 0) - ZaP 2001 1 1+1,0,0,0⟩,ZaN 2001 m dd):=rfl
 rw[e]
 have ed:ZaP 2001 1 1=11323:=by decide
 rw[ed]at e1 ⊢
 refine Zaa Tryz.func376 rfl rfl rfl rfl ?_
 generalize ZaN 2001 m dd=ok at *
 cases ok with
 | true =>
  have hb2:=hb rfl
  rw[if_pos rfl,if_pos rfl]at e2
  rw[if_pos rfl]
  generalize ZaP 2001 m dd=n at *
  repeat (first|(refine js ?_;(first|(refine Zab (fun w' hw=>e1 w' (hG.up hw)) ?_)|(refine Zab (fun w' hw=>e2 w' (hG.up hw)) ?_)|(refine bx ?_;intro bk)))|refine walk ?_)
  exact rtC
 | false =>
  rw[if_neg (by decide),if_neg (by decide)]at e2
  rw[if_neg (by decide)]
  repeat (first|(refine js ?_;(first|(refine Zab (fun w' hw=>e1 w' (hG.up hw)) ?_)|(refine Zab (fun w' hw=>e2 w' (hG.up hw)) ?_)|(refine bx ?_;intro bk)))|refine walk ?_)
  exact rtC
theorem Zvs (m wk dd:Int)(w:World) :
  Does Tryz.prog 377 [.int .i64 m,.agg #[.int .i64 2,.int .i64 wk,.int .i64 dd]] w (fun v O=>v=dtV (ZdX m ⟨2,wk,dd⟩)/\O=[]):=by
 have e:ZdX m ⟨2,wk,dd⟩=(⟨3,wk,m,5,0⟩,true):=rfl
 rw[e]
 refine Zaa Tryz.func377 rfl rfl rfl rfl ?_
 repeat (first|(refine js ?_;(refine bx ?_;intro bk))|refine walk ?_)
 exact rtC
theorem Zui {G:Prop}(h:G:=by(first|(apply Pu_quo64;rfl;rfl;omega;omega;omega)|(apply Pu_rem;rfl;rfl;decide))):G:=h
theorem ZwJ {G:Prop}(h:G:=by first|(apply Qy_y;rfl;exact Zui)|exact QyA):G:=h
theorem Zz5 {G:Prop}(h:G:=by repeat (first|exact QF.nil|(apply QF.mk;rfl;rfl;decide +kernel;exact ZwJ))):G:=h
theorem Zvr (m wk dd:Int)(hd:0<=dd/\dd<=31)(w:World) :
  Does Tryz.prog 378 [.int .i64 m,.agg #[.int .i64 3,.int .i64 wk,.int .i64 dd]] w (fun v O=>v=dtV (ZdX m ⟨3,wk,dd⟩)/\O=[]):=by
 have e:ZdX m ⟨3,wk,dd⟩=(⟨3,wk,m,dd / 7+1,0⟩,decide (dd.tmod 7=1)&&decide (dd<29)):=by
  rw[Int.tmod_eq_emod_of_nonneg hd.1];rfl
 rw[e]
 refine Zaa Tryz.func378 rfl rfl rfl rfl ?_
 repeat' (first|(apply RL_pu;rfl;exact Zui)|(refine js ?_;(refine bx ?_;intro bk))|(apply RD_Q;rfl;rfl;decide +kernel;rfl;rfl;exact ZwJ)|refine walk1 ?_|(refine RD_Lw ?_;intro F;(first|(refine bx ?_;intro bk)|(refine stA ?_)|(apply Zac;first|exact Zui|exact PuA));refine⟨_,EndsA,Zz5,?_⟩)|(apply RD_W;rfl;intro bk)|refine und ?_|(refine Zam rfl rfl rfl (fun hc=>?_) (fun hc=>?_))|(refine Zas rfl rfl rfl (fun hc=>?_) (fun hc=>?_))|(refine Zaf rfl (fun hc=>?_) (fun hc=>?_)))
 all_goals exact ret_2 _ _ [] (.cellB rfl (by repeat' constructor) rfl rfl) (.tmp rfl) .nil ⟨by simp[*,dtV,ZcP.enc],rfl⟩
theorem Zvq (m wk dd:Int)(w:World) :
  Does Tryz.prog 379 [.int .i64 m,.agg #[.int .i64 4,.int .i64 wk,.int .i64 dd]] w (fun v O=>v=dtV (ZdX m ⟨4,wk,dd⟩)/\O=[]):=by
 have e:ZdX m ⟨4,wk,dd⟩=(dt0,false):=rfl
 rw[e]
 refine Zaa Tryz.func379 rfl rfl rfl rfl ?_
 repeat (first|(refine js ?_;(refine bx ?_;intro bk))|refine walk ?_)
 exact rtC
theorem ZnM (m:Int)(d:DDay)(hk:1<=d.kind/\d.kind<=4)(hd:0<=d.day/\d.day<=31)(w:World)(hG:Glob w) :
  Does Tryz.prog (Zl2 d.kind) [.int .i64 m,.agg (DDay.enc d).toArray] w (fun v O=>v=dtV (ZdX m d)/\O=[]):=by
 obtain⟨k,wk,dd⟩:=d
 simp only at hk hd ⊢
 have h4:k=1\/k=2\/k=3\/k=4:=by omega
 rcases h4 with rfl|rfl|rfl|rfl
 ·exact Zvt m wk dd hd w hG
 ·exact Zvs m wk dd w
 ·exact Zvr m wk dd hd w
 ·exact Zvq m wk dd w
theorem ZAt {w:World}(hF:FtG w)(k:Int)(hk:1<=k/\k<=4):Zau w ((⟨0,0,none⟩:Addr).add (k.toNat*1)) [fnV (Zl2 k)]:=by
 intro j v hj
 have hk:=hF ((k.toNat - 1)+j) v
 have h4:k=1\/k=2\/k=3\/k=4:=by omega
 have hj3:j<1:=(List.getElem?_eq_some_iff.1 hj).1
 have h3:j=0:=by omega
 rcases h4 with rfl|rfl|rfl|rfl <;> subst h3 <;> exact hk hj
theorem Zrz {r:DRule}(hc:ZaH r.at_=true){off before:Int}(h1:ZbY off=true)(h2:ZbY before=true):(0<=r.at_.base/\r.at_.base<=2)/\-3000000<=r.at_.sec/\r.at_.sec<=3000000/\-3000000<=off/\off<=3000000/\-3000000<=before/\before<=3000000:=by
 unfold ZaH at hc
 unfold ZbY at h1 h2
 simp only[Bool.and_eq_true,decide_eq_true_eq]at hc h1 h2
 omega
def ZqQ (x:ZcP × Int):Value := .tuple #[.agg x.1.enc.toArray,.int .i64 x.2]
end Go.Proofs.YtpipekfmecikmaaGreatDoor
namespace Go.Wk
open Go Go.RowKit
def jan1 (y:Int):Int:=365*y+(y+3) / 4 - (y+99) / 100+(y+399) / 400 - 719528
def ZfW (y:Int):Int:=if ZbP y then 366 else 365
theorem Zeh (y:Int):ZbP y=true↔y % 4=0/\(y % 100≠0\/y % 400=0):=by
 unfold ZbP
 simp
theorem Zwb (c:Int):jan1 (c*400)=c*146097 - 719528:=by unfold jan1;omega
theorem Zdk (y:Int):jan1 (y+1)=jan1 y+ZfW y:=by
 unfold ZfW
 have h:=Zeh y
 by_cases hl:ZbP y=true
 ·rw[if_pos hl]
  have:=h.1 hl
  unfold jan1
  omega
 ·rw[if_neg hl]
  have:¬ (y % 4=0/\(y % 100≠0\/y % 400=0)):=fun e=>hl (h.2 e)
  unfold jan1
  omega
theorem ZeA (y:Int):365<=ZfW y/\ZfW y<=366:=by unfold ZfW;split <;> omega
theorem Zjn (y:Int):jan1 y=ZaP y 1 1:=by
 unfold ZaP ZbI jan1
 rw[if_pos (by decide),show((1:Int)+12 - 3).toNat=10 by decide,show Za2.getD 10 0=306 by decide]
 omega
theorem Zjx (y:Int)(m:Nat)(h0:1<=m)(h1:m<=11):ZaP y ((m:Int)+1) 1=ZaP y m 1+lenM y m:=by
 have h:=Zeh y
 have hm:m=1\/m=2\/m=3\/m=4\/m=5\/m=6\/m=7\/m=8\/m=9\/m=10\/m=11:=by omega
 rcases hm with rfl|rfl|rfl|rfl|rfl|rfl|rfl|rfl|rfl|rfl|rfl
 ·show ZbI (y - 1) 14 1=ZbI (y - 1) 13 1+31
  unfold ZbI
  rw[show((14:Int) - 3).toNat=11 by decide,show((13:Int) - 3).toNat=10 by decide,show Za2.getD 11 0=337 by decide,show Za2.getD 10 0=306 by decide]
  omega
 ·show ZbI y 3 1=ZbI (y - 1) 14 1+(if ZbP y then 29 else 28)
  unfold ZbI
  rw[show((14:Int) - 3).toNat=11 by decide,show((3:Int) - 3).toNat=0 by decide,show Za2.getD 11 0=337 by decide,show Za2.getD 0 0=0 by decide]
  by_cases hl:ZbP y=true
  ·rw[if_pos hl]
   have:=h.1 hl
   omega
  ·rw[if_neg hl]
   have:¬ (y % 4=0/\(y % 100≠0\/y % 400=0)):=fun e=>hl (h.2 e)
   omega
 all_goals
  show ZbI y _ 1=ZbI y _ 1+_
  unfold ZbI
 ·show y / 400*146097+y % 400*365+y % 400 / 4 - y % 400 / 100+31+1 - 1 - 719468=y / 400*146097+y % 400*365+y % 400 / 4 - y % 400 / 100+0+1 - 1 - 719468+31
  omega
 ·show y / 400*146097+y % 400*365+y % 400 / 4 - y % 400 / 100+61+1 - 1 - 719468=y / 400*146097+y % 400*365+y % 400 / 4 - y % 400 / 100+31+1 - 1 - 719468+30
  omega
 ·show y / 400*146097+y % 400*365+y % 400 / 4 - y % 400 / 100+92+1 - 1 - 719468=y / 400*146097+y % 400*365+y % 400 / 4 - y % 400 / 100+61+1 - 1 - 719468+31
  omega
 ·show y / 400*146097+y % 400*365+y % 400 / 4 - y % 400 / 100+122+1 - 1 - 719468=y / 400*146097+y % 400*365+y % 400 / 4 - y % 400 / 100+92+1 - 1 - 719468+30
  omega
 ·show y / 400*146097+y % 400*365+y % 400 / 4 - y % 400 / 100+153+1 - 1 - 719468=y / 400*146097+y % 400*365+y % 400 / 4 - y % 400 / 100+122+1 - 1 - 719468+31
  omega
 ·show y / 400*146097+y % 400*365+y % 400 / 4 - y % 400 / 100+184+1 - 1 - 719468=y / 400*146097+y % 400*365+y % 400 / 4 - y % 400 / 100+153+1 - 1 - 719468+31
  omega
 ·show y / 400*146097+y % 400*365+y % 400 / 4 - y % 400 / 100+214+1 - 1 - 719468=y / 400*146097+y % 400*365+y % 400 / 4 - y % 400 / 100+184+1 - 1 - 719468+30
  omega
 ·show y / 400*146097+y % 400*365+y % 400 / 4 - y % 400 / 100+245+1 - 1 - 719468=y / 400*146097+y % 400*365+y % 400 / 4 - y % 400 / 100+214+1 - 1 - 719468+31
  omega
 ·show y / 400*146097+y % 400*365+y % 400 / 4 - y % 400 / 100+275+1 - 1 - 719468=y / 400*146097+y % 400*365+y % 400 / 4 - y % 400 / 100+245+1 - 1 - 719468+30
  omega
theorem ZsG (y m d:Int):ZaP y m d=ZaP y m 1+d - 1:=by
 unfold ZaP ZbI
 split <;> omega
theorem Zvb (q:Int)(h0:0<=q):10<=monN q 11↔306<=q:=by
 have b11:Za2.getD 11 0=337:=by decide
 have b10:Za2.getD 10 0=306:=by decide
 have hle:∀ m,monN q m<=m:=by
  intro m
  induction m with
  | zero=>exact Nat.le_refl _
  | succ m ih=>rw[monN];split <;> omega
 rw[monN,monN]
 simp only[b11,show Za2.getD (9+1) 0=306 from b10,show Za2.getD (10+1) 0=337 from b11]
 have h9:=hle 9
 split
 ·constructor <;> intro <;> omega
 ·split
  ·constructor <;> intro <;> omega
  ·constructor <;> intro <;> omega
theorem Zvj (c y:Int)(h0:0<=y)(h1:y<=399):jan1 (c*400+y+1)=c*146097+(y*365+y / 4 - y / 100)+306 - 719468:=by
 have e1:(c*400+y+1+3) / 4=100*c+y / 4+1:=by omega
 have e2:(c*400+y+1+99) / 100=4*c+y / 100+1:=by omega
 have e3:(c*400+y+1+399) / 400=c+1:=by omega
 unfold jan1
 rw[e1,e2,e3]
 omega
theorem Zep (n:Int):jan1 (ZbD n)<=n/\n<jan1 (ZbD n+1):=by
 have hD:ZbD n=if 10<=monN ((n+719468) % 146097 - (Zcw ((n+719468) % 146097)*365+Zcw ((n+719468) % 146097) / 4 - Zcw ((n+719468) % 146097) / 100)) 11 then (n+719468) / 146097*400+Zcw ((n+719468) % 146097)+1 else (n+719468) / 146097*400+Zcw ((n+719468) % 146097):=rfl
 have c3:0<=(n+719468) % 146097/\(n+719468) % 146097<146097:=by omega
 have hn:n=(n+719468) / 146097*146097+(n+719468) % 146097 - 719468:=by omega
 have hb:=ZoB _ c3.1 c3.2
 generalize (n+719468) % 146097=r at *
 generalize (n+719468) / 146097=c at *
 generalize Zcw r=y at *
 obtain⟨y1,y2,y3,y4⟩:=hb
 have ht:=Zvb _ y3
 have hm:=Zvj c y y1 y2
 by_cases h:10<=monN (r - (y*365+y / 4 - y / 100)) 11
 ·rw[if_pos h]at hD
  have hq:=ht.1 h
  have h2:=Zdk (c*400+y+1)
  have h3:=ZeA (c*400+y+1)
  rw[hD,h2,hm]
  omega
 ·rw[if_neg h]at hD
  have hq:¬ 306<=r - (y*365+y / 4 - y / 100):=fun e=>h (ht.2 e)
  have h2:=Zdk (c*400+y)
  have h3:=ZeA (c*400+y)
  rw[hD]
  omega
theorem ZbQ (a:Int)(k:Nat):jan1 a+365*k<=jan1 (a+k):=by
 induction k with
 | zero=>simp
 | succ k ih =>
  have:=Zdk (a+k)
  have h2:=ZeA (a+k)
  rw[show a+((k+1:Nat):Int)=a+k+1 by omega,this]
  omega
theorem Zvi {n a b:Int}(h1:jan1 a<=n)(h2:n<jan1 (a+1))(h3:jan1 b<=n)(h4:n<jan1 (b+1)):a=b:=by
 by_cases h:a<b
 ·have:=ZbQ (a+1) (b - (a+1)).toNat
  rw[show a+1+((b - (a+1)).toNat:Int)=b by omega]at this
  omega
 ·by_cases h':b<a
  ·have:=ZbQ (b+1) (a - (b+1)).toNat
   rw[show b+1+((a - (b+1)).toNat:Int)=a by omega]at this
   omega
  ·omega
end Go.Wk
