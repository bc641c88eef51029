/- Parts of the proof. -/
import Derived.Test.YtbjomhdhkpgbaaaGreatDoorV28
import Derived.Test.YtbjomhdhkpgbaaaGreatDoorV27
import Derived.Test.YtbjomhdhkpgbaaaGreatDoorV29
import Derived.Test.YtbjomhdhkpgbaaaGreatDoorV06
import Derived.Test.YtbjomhdhkpgbaaaGreatDoorV24
import Derived.Test.YtbjomhdhkpgbaaaGreatDoorV08
set_option maxHeartbeats 4000000
set_option linter.unusedVariables false
set_option linter.unusedSimpArgs false
namespace Go.Proofs.YtbjomhdhkpgbaaaGreatDoor
open Go Go.RowKit Go.Wk
theorem Zus (l:List Int):Zbx l∈o4:=by
 have h:=Zat l 0 5 (by decide)
 have hc:atB l 0 5=0\/atB l 0 5=1\/atB l 0 5=2\/atB l 0 5=3\/atB l 0 5=4:=by omega
 unfold Zbx
 rcases hc with e|e|e|e|e <;> rw[e] <;> decide
theorem Znx (l:List Int)(x:ByteArray):∀ r∈Zb3 l x,r.save=0\/r.save=Zbx l:=by
 obtain⟨_,a1,a2⟩:=Zi8 l
 have p1:=Zzt l
 obtain⟨_,b1,b2⟩:=Zny l (m1 l).1 (m1 l).2 (by have:=(Zi8 l).1;exact this) a1 a2
 have p2:=Zzs l _ _ p1 a1 a2
 obtain⟨s0,s1,s2⟩:=Zhq l
 have h9:=Zat l 9 6 (by decide)
 unfold Zb3 m3
 generalize (m2 l (m1 l).1 (m1 l).2).2=f at *
 generalize (m2 l (m1 l).1 (m1 l).2).1=o at *
 have ht:f<=to17 l f/\(to17 l f<=2149\/to17 l f=1048576):=by unfold to17;split <;> omega
 obtain⟨p,q,e,hp,hq,e1,e2,e3,e4,sp,sq,hs⟩:=ZlL l 11 f (to17 l f) (Zbx l) b1 (by omega) ht.1 ht.2 ⟨s1,s2⟩
 rw[e]
 intro r hr
 obtain⟨r',hr',rfl⟩:=List.mem_map.1 hr
 show r'.save=0\/r'.save=_
 rw[List.mem_append]at hr'
 rcases hr' with hr'|hr'
 ·exact(p2.rule r' hr').2.2.2
 ·simp only[List.mem_cons,List.not_mem_nil,or_false]at hr'
  rcases hr' with rfl|rfl <;> omega
theorem Zpd (d:DD23)(n:ByteArray):ofB (Zai d).rules n=[]\/∃ j,j<d.ns/\n=sN j/\ofB (Zai d).rules n=Zb3 (d.sets.getD j []) n:=by
 cases hl:ofB (Zai d).rules n with
 | nil=>exact .inl rfl
 | cons r l =>
  have hr:r∈ofB (Zai d).rules n:=by rw[hl];exact List.mem_cons_self
  have h1:=List.mem_filter.1 hr
  have h2:r.name=n:=of_decide_eq_true h1.2
  obtain⟨j,h3,h4⟩:=Zde d.sets d.ns r h1.1
  have hm:=(ns23 d).2
  refine .inr ⟨j,h3,h2.symm.trans h4,?_⟩
  rw[<- hl,<- h2,h4]
  show ofB (Za5 d.sets d.ns) (sN j)=_
  rw[Zhs d.sets d.ns hm j (by omega),if_pos h3]
def X23 (d:DD23)(n:ByteArray):Int := -Zaj (ofB (Zai d).rules n)
theorem ZDv {l:List Zab}{o:Int}(hS:ZcL l)(ho:o∈o4)(hs:∀ r∈l,r.save=0\/r.save=o){x:Int}(hx:x=0\/x = -Zaj l):D9 x l:=by
 obtain⟨s,s0,s1,s2,s3,s4,s5⟩:=hS.other
 have hl:=hS.least
 obtain⟨t,t0,_,_,r,hr,hrs⟩:=hS.saves
 have e:s=o:=by
  have a1:=hs r hr
  have a2:=s5 r hr
  omega
 subst e
 have hc:x=0\/(x=3600/\s = -3600):=by
  simp only[o4,List.mem_cons,List.not_mem_nil,or_false]at ho
  omega
 refine⟨⟨hS,?_⟩,s,ho,s3,s5,?_⟩
 ·rcases hc with h|⟨h,rfl⟩
  ·exact .inl h
  ·exact .inr ⟨h,s5⟩
 ·rcases hc with h|⟨h,h2⟩
  ·exact .inl h
  ·exact .inr h2
def ShOk (d:DD23)(X:ByteArray->Int):Prop:=∀ n,X n=0\/X n=X23 d n
theorem ShOk.none (d:DD23):ShOk d fun _=>0:=fun _ => .inl rfl
theorem ShOk.all (d:DD23):ShOk d (X23 d):=fun _ => .inr rfl
theorem ShOk.d9 {d:DD23}{X:ByteArray->Int}(h:ShOk d X){n:ByteArray}(hn:ofB (Zai d).rules n≠[]):D9 (X n) (ofB (Zai d).rules n)/\setB n=true:=by
 rcases Zpd d n with h0|⟨j,j1,rfl,j3⟩
 ·exact absurd h0 hn
 have hm:=(ns23 d).2
 have hS:=(Zer d.sets d.ns hm j j1).1
 refine⟨ZDv hS (Zus (d.sets.getD j [])) (fun r hr=>?_) (h _),ZB9 ⟨j,by omega⟩⟩
 have hr:r∈ofB (Zai d).rules (sN j):=hr
 rw[j3]at hr
 exact Znx _ _ r hr
theorem ShOk.empty {d:DD23}{X:ByteArray->Int}(h:ShOk d X){n:ByteArray}(hn:ofB (Zai d).rules n=[]):X n=0:=by
 rcases h n with h|h
 ·exact h
 ·rw[h,X23,hn]
  rfl
theorem ZsN (d:DD23):∀ z∈(Zai d).zones,∀ e∈z.eras,(∃ k:Nat,12<=k/\k<=116/\e.off=offK k)/\(e.kind=1->∃ j:Nat,j<=8/\e.save=900*(j:Int)):=by
 have key:∀ (ns:Int) (l:List E23) (c:Nat),∀ e∈(ZaY ns l c).1,(∃ k:Nat,12<=k/\k<=116/\e.off=offK k)/\(e.kind=1->∃ j:Nat,j<=8/\e.save=900*(j:Int)):=fun ns l c e he=>by
  obtain⟨k,hk⟩:=List.getElem?_of_mem he
  obtain⟨_,rfl⟩:=ZfN ns l c k e hk
  generalize l.getD k e23Z=x
  have o:=ZgB x.off 48 (by decide)
  have s0:=Int.emod_nonneg x.set (b:=4) (by decide)
  have s1:=Int.emod_lt_of_pos x.set (b:=4) (by decide)
  refine⟨⟨(x.off.tmod 48+64).toNat,by omega,by omega,?_⟩,fun hk1=>⟨2*(1+x.set % 4).toNat,by omega,?_⟩⟩
  ·show 900*x.off.tmod 48=_
   unfold offK
   omega
  ·show Zfc x _=_
   unfold Zfc
   rw[if_pos (show ZdP x _=1 from hk1)]
   omega
 have hz:∀ (ns:Int) (zs:List (List E23)) (i:Nat),∀ z∈ZbJ ns zs i,∃ l c,z.eras=(ZaY ns l c).1:=fun ns zs i=>by
  induction i with
  | zero=>exact fun z hz=>by cases hz
  | succ i ih =>
   intro z hz
   rw[ZbJ,List.mem_append,List.mem_singleton]at hz
   rcases hz with hz|rfl
   ·exact ih z hz
   ·exact⟨_,_,rfl⟩
 intro z hz1 e he
 obtain⟨l,c,hlc⟩:=hz _ _ _ z hz1
 rw[hlc]at he
 exact key _ _ _ e he
theorem ShOk.e9 {d:DD23}{X:ByteArray->Int}(h:ShOk d X){z:ZaO}(hz:z∈(Zai d).zones){e:DEra}(he:e∈z.eras):∃ b,E9 X (Zai d).rules e b:=by
 obtain⟨Y,hY⟩:=ZbF d z hz
 obtain⟨k,hk⟩:=List.getElem?_of_mem he
 have hkl:=(List.getElem?_eq_some_iff.1 hk).1
 have hE:=hY.era k e hk
 obtain⟨o1,o2⟩:=ZsN d z hz e he
 have hchk:=hY.eraOk hkl
 rw[List.getD_eq_getElem?_getD,hk,Option.getD_some]at hchk
 refine⟨_,hE,hchk,o1,o2,fun h2=>?_,?_⟩
 ·rcases hE with⟨h0,_⟩|⟨h0,_⟩|⟨_,_,_,_,_,_,h3,_⟩
  ·omega
  ·omega
  ·refine(h.d9 fun hh=>?_).1
   obtain⟨_,_,_,⟨r,hr,_⟩,_⟩:=h3.saves
   rw[hh]at hr
   cases hr
 ·have hT:=hY.til k e hk
  split at hT
  ·rcases hT with⟨D,S,B,hu,_,_,h3,h4,_⟩|⟨_,S,B,hu,_,h3,h4,_⟩ <;> rw[hu] <;> exact⟨h3,h4⟩
  ·rw[hT]
   exact⟨by decide,by decide⟩
theorem Zyh (x y:ByteArray)(l:List ByteArray):memB x (l++[y])=(memB x l||decide (y=x)):=Zi4 x y l
theorem ZgE (s:Zac):∀ (l seen:List ByteArray) (i:Nat),(∀ x∈l,ofB s.rules x≠[]/\Zaj (ofB s.rules x)=0/\(Zbo (ofB s.rules x)).2=true)->(∀ x∈l,memB x seen=false)->l.Nodup->Zbw s l seen i=none
 | [],_,_,_,_,_=>rfl
 | x::l,seen,i,h,hs,hn=>by
  obtain⟨h1,h2,h3⟩:=h x List.mem_cons_self
  obtain⟨n1,n2⟩:=List.nodup_cons.1 hn
  rw[Zbw]
  rw[if_neg h1,if_neg (by rw[hs x List.mem_cons_self];decide),if_neg (by rw[h2,h3];simp)]
  refine ZgE s l _ _ (fun y hy=>h y (List.mem_cons_of_mem _ hy)) (fun y hy=>?_) n2
  have hxy:¬ x=y:=by
   intro hh
   rw[hh]at n1
   exact n1 hy
  rw[Zyh,hs y (List.mem_cons_of_mem _ hy),decide_eq_false hxy]
  rfl
def ZaV (d:DD23)(X:ByteArray->Int)(sh:List ByteArray):Zac:=trS X (outF X (Zai d).rules) sh (Zai d)
theorem ZkC {d:DD23}{X:ByteArray->Int}(h:ShOk d X){n:ByteArray}(hx:X n≠0):ofB (Zai d).rules n≠[]/\X n=3600/\Zaj ((ofB (Zai d).rules n).map (shR (X n)))=0/\Zbo ((ofB (Zai d).rules n).map (shR (X n)))=(3600,true):=by
 have hne:ofB (Zai d).rules n≠[]:=fun hh=>hx (h.empty hh)
 obtain⟨⟨hD,_⟩,_⟩:=h.d9 hne
 have h36:X n=3600:=by
  rcases hD.x0 with h|h
  ·exact absurd h hx
  ·exact h
 obtain⟨s,_,_,_,_,hh⟩:=hD.other
 have h0:Zaj ((ofB (Zai d).rules n).map (shR (X n)))<=0:=(Zd0 _ 0).1
 have hl:=hD.least
 have hs:=hD.set.least
 refine⟨hne,h36,by omega,?_⟩
 rcases hh with⟨hh,_⟩|⟨_,_,hh⟩
 ·exact absurd hh hx
 ·exact hh
theorem Znh {d:DD23}{X:ByteArray->Int}(h:ShOk d X){sh:List ByteArray}(hsh:∀ x∈sh,X x≠0)(hn:sh.Nodup)(hl:sh.length<=2000):accD (ZaV d X sh)=none:=by
 have hm:=Zdp d
 have hsz:ZeT (ZaV d X sh)=none:=by
  have h0:=ZhZ d
  unfold ZeT at h0 ⊢
  have e1:(ZaV d X sh).rules.length=(Zai d).rules.length:=List.length_map _
  have e2:(ZaV d X sh).zones.length=(Zai d).zones.length:=List.length_map _
  have e3:(ZaV d X sh).zones.findIdx? (fun z=>decide (60<z.eras.length))=none:=by
   rw[List.findIdx?_eq_none_iff]
   intro z hz
   obtain⟨z',hz',rfl⟩:=List.mem_map.1 hz
   obtain⟨Y,hY⟩:=ZbF d z' hz'
   have:=hY.len
   show decide (60<(z'.eras.map _).length)=false
   rw[List.length_map]
   exact decide_eq_false (by omega)
  have:=hm.nr
  have:=hm.nz
  have:=hm.nl
  rw[e1,e2,e3,if_neg (by omega),if_neg (by omega)]
  dsimp only
  rw[if_neg (show ¬ 1000<(ZaV d X sh).links.length from Nat.not_lt.2 (show(Zai d).links.length<=1000 by omega)),if_neg (show ¬ 2000<(ZaV d X sh).shifts.length from Nat.not_lt.2 hl)]
 have hst:Zih (ZaV d X sh)=none:=by
  unfold Zih
  refine Zfa _ fun x hx=>?_
  rw[show(ZaV d X sh).rules=(Zai d).rules.map (trR X) from rfl,Zfg]at hx
  obtain⟨r,hr,rfl⟩:=ZuT hx
  have hne:ofB (Zai d).rules r.name≠[]:=fun hh=>by
   have:r∈ofB (Zai d).rules r.name:=List.mem_filter.2 ⟨hr,decide_eq_true rfl⟩
   rw[hh]at this
   cases this
  obtain⟨⟨hD,_⟩,hb⟩:=h.d9 hne
  exact hD.fault hb (ZhX X _ _)
 have hsf:Zbw (ZaV d X sh) (ZaV d X sh).shifts [] 0=none:=by
  refine ZgE _ sh [] 0 (fun x hx=>?_) (fun _ _=>rfl) hn
  obtain⟨a1,a2,a3,a4⟩:=ZkC h (hsh x hx)
  rw[show(ZaV d X sh).rules=(Zai d).rules.map (trR X) from rfl,ZhX,a3,a4]
  exact⟨fun hh=>a1 (List.map_eq_nil_iff.1 hh),rfl,rfl⟩
 have hlk:Zda (ZaV d X sh)=none:=by
  have e:Zf0 (ZaV d X sh)=Zf0 (Zai d):=by
   unfold Zf0 ZaV trS
   dsimp only
   rw[List.map_map]
   rfl
  rw[Zgr,e,<- Zgr]
  exact Zh0 d
 have hzg:ZbI (ZaV d X sh).rules (ZaV d X sh).zones 0=none :=
  Zkq _ 0 0 (fun z hz e he=>by
   obtain⟨b,hb⟩:=h.e9 hz he
   exact hb.tr) (Ze1 _ 0 (ZbF d))
 unfold accD
 rw[hsz,hst,hsf,hlk,hzg]
 rfl
theorem E9.kindO {X:ByteArray->Int}{rs:List Zab}{e:DEra}{b:Bool}(h:E9 X rs e b):(e.format=pctB->ZaP (outF X rs e).data.toList=5)/\(e.format≠pctB->ZaP (outF X rs e).data.toList≠4/\ZaP (outF X rs e).data.toList≠5):=by
 obtain⟨o,o1,o2,o3,o5⟩:=h.num
 obtain⟨n1,n2,n3⟩:=h.numK o1
 refine⟨fun hp=>?_,fun hp=>?_⟩
 ·have hb:(expF rs e).data.toList=numL e o:=by unfold expF;rw[if_pos hp];exact Zpp o2
  unfold outF
  rcases h.y with hy|⟨hy,hk⟩
  ·rw[if_pos hy,hb]
   exact n1
  ·obtain rfl:=o5 hy
   rw[if_neg (by omega),Zcm,hb,n3 hk]
   exact(h.numT hk).1
 ·have hb:expF rs e=e.format:=by unfold expF;rw[if_neg hp]
  unfold outF
  rw[hb]
  rcases ZgU _ h.dr.fmt hp with⟨q1,q2,q3⟩|⟨q1,q2,q3,q4,q5⟩
  ·rw[q2]
   split <;> omega
  ·split <;> omega
theorem E9.turn2 {X:ByteArray->Int}{rs:List Zab}{e:DEra}{b:Bool}(h:E9 X rs e b)(hy:yE X e≠0):Zcm (Zcm (expF rs e))=expF rs e:=by
 obtain⟨o,o1,o2,o3,o5⟩:=h.num
 obtain⟨n1,n2,n3⟩:=h.numK o1
 have hy2:yE X e=3600/\e.kind=2:=by
  rcases h.y with h|h
  ·exact absurd h hy
  ·exact h
 obtain⟨hy2,hk⟩:=hy2
 obtain rfl:=o5 hy2
 obtain⟨t1,t2⟩:=h.numT hk
 by_cases hp:e.format=pctB
 ·have e1:expF rs e=⟨(numL e (-3600)).toArray⟩:=by
   unfold expF numB
   rw[if_pos hp,o2]
  rw[e1]
  have e2:Zcm ⟨(numL e (-3600)).toArray⟩=⟨(ZaT (e.off + -3600)++47::ZaT e.off).toArray⟩:=by
   unfold Zcm
   rw[show(⟨(numL e (-3600)).toArray⟩:ByteArray).data.toList=numL e (-3600) from rfl,n3 hk]
  rw[e2]
  unfold Zcm
  rw[show(⟨(ZaT (e.off + -3600)++47::ZaT e.off).toArray⟩:ByteArray).data.toList=ZaT (e.off + -3600)++47::ZaT e.off from rfl,t2]
  unfold numL
  rw[if_neg (by omega),if_neg (by omega)]
 ·have hb:expF rs e=e.format:=by unfold expF;rw[if_neg hp]
  rw[hb]
  rcases ZgU _ h.dr.fmt hp with⟨q1,q2,q3⟩|⟨q1,q2,q3,q4,q5⟩
  ·rw[q2,q2]
  ·exact q5
theorem ZAE (G:DEra->ByteArray)(e:DEra):trE (fun _=>0) G e={ e with format:=G e }:=by
 unfold trE
 have:yE (fun _=>0) e=0:=by unfold yE;split <;> rfl
 rw[this,Int.sub_zero,ZB8]
theorem ZAD (rs:List Zab):rs.map (trR fun _=>0)=rs:=(List.map_congr_left fun r _=>ZiR r).trans (List.map_id _)
theorem Zrw (d:DD23):Zb4 (Zai d)=ZaV d (fun _=>0) []:=by
 unfold Zb4 ZaV trS erasS
 rw[ZAD]
 congr 1
 refine List.map_congr_left fun z _=>?_
 unfold Za4
 congr 1
 refine List.map_congr_left fun e _=>?_
 rw[ZAE]
 have hy:yE (fun _=>0) e=0:=by unfold yE;split <;> rfl
 unfold expE outF expF
 rw[if_pos hy]
 split <;> rfl
theorem Zth (d:DD23):ZaL (Zai d)=Zai d:=ZyN fun z hz e he=>by
 obtain⟨b,hb⟩:=(ShOk.none d).e9 hz he
 unfold Zct
 rw[if_neg]
 have:=(Zrh hb.dr.fmt).2
 exact of_decide_eq_false this
theorem Zn6 (d:DD23):ZaL (ZaV d (fun _=>0) [])=Zai d:=by
 unfold ZaL erasS ZaV trS
 dsimp only
 rw[ZAD,List.map_map]
 have hz:(Zai d).zones.map (Za4 Zct∘Za4 (trE (fun _=>0) (outF (fun _=>0) (Zai d).rules)))=(Zai d).zones:=by
  refine(List.map_congr_left fun z hz=>?_).trans (List.map_id _)
  show Za4 Zct (Za4 _ z)=z
  unfold Za4
  dsimp only
  rw[List.map_map]
  have he:z.eras.map (Zct∘trE (fun _=>0) (outF (fun _=>0) (Zai d).rules))=z.eras:=by
   refine(List.map_congr_left fun e he=>?_).trans (List.map_id _)
   show Zct (trE _ _ e)=e
   obtain⟨b,hb⟩:=(ShOk.none d).e9 hz he
   obtain⟨k1,k2⟩:=hb.kindO
   rw[ZAE]
   unfold Zct
   dsimp only
   by_cases hp:e.format=pctB
   ·rw[if_pos (k1 hp),<- hp]
   ·rw[if_neg (k2 hp).2]
    have hy:yE (fun _=>0) e=0:=by unfold yE;split <;> rfl
    unfold outF expF
    rw[if_pos hy,if_neg hp]
  rw[he]
 rw[hz]
 rfl
def updX (X:ByteArray->Int)(n:ByteArray)(y:Int)(m:ByteArray):Int:=if m=n then y else X m
theorem ZCA (d:DD23){X:ByteArray->Int}{n:ByteArray}{y:Int}(sh:List ByteArray)(h0:X n=0)(hy:y≠0):byS (ZaV d X sh) n y=ZaV d (updX X n y) sh:=by
 unfold byS erasS shiftS ZaV trS
 dsimp only
 rw[List.map_map,List.map_map,List.map_map]
 congr 1
 ·refine List.map_congr_left fun r _=>?_
  show shN n y (trR X r)=trR (updX X n y) r
  unfold shN trR updX
  by_cases hr:r.name=n
  ·rw[if_pos (show(shR (X r.name) r).name=n from hr),if_pos hr,hr,h0,ZiR]
  ·rw[if_neg (show ¬ (shR (X r.name) r).name=n from hr),if_neg hr]
 ·refine List.map_congr_left fun z _=>?_
  show Za4 (Zce n) (Za4 (shE n y) (Za4 (trE X _) z))=_
  unfold Za4
  dsimp only
  rw[List.map_map,List.map_map]
  congr 1
  refine List.map_congr_left fun e _=>?_
  show Zce n (shE n y (trE X (outF X (Zai d).rules) e))=trE (updX X n y) (outF (updX X n y) (Zai d).rules) e
  by_cases hi:Zfp n e
  ·have y1:yE X e=0:=by unfold yE;rw[if_pos hi.1,hi.2,h0]
   have y2:yE (updX X n y) e=y:=by unfold yE updX;rw[if_pos hi.1,if_pos hi.2]
   have i1:Zfp n (trE X (outF X (Zai d).rules) e):=hi
   have s1:shE n y (trE X (outF X (Zai d).rules) e)={ trE X (outF X (Zai d).rules) e with off:=(trE X (outF X (Zai d).rules) e).off - y,til:=shU (trE X (outF X (Zai d).rules) e).til y }:=if_pos i1
   have i2:Zfp n (shE n y (trE X (outF X (Zai d).rules) e)):=by rw[s1];exact hi
   have o1:outF X (Zai d).rules e=expF (Zai d).rules e:=if_pos y1
   have o2:outF (updX X n y) (Zai d).rules e=Zcm (expF (Zai d).rules e):=if_neg (by rw[y2];exact hy)
   unfold Zce
   rw[if_pos i2,s1]
   unfold trE
   dsimp only
   rw[y1,y2,o1,o2,ZB8,Int.sub_zero]
  ·have y2:yE (updX X n y) e=yE X e:=by
    unfold yE updX
    by_cases hk:e.kind=2
    ·rw[if_pos hk,if_pos hk,if_neg fun hh=>hi ⟨hk,hh⟩]
    ·rw[if_neg hk,if_neg hk]
   unfold Zce shE
   rw[if_neg (show ¬ Zfp n (trE X (outF X (Zai d).rules) e) from hi),if_neg (show ¬ Zfp n (trE X (outF X (Zai d).rules) e) from hi)]
   unfold trE outF
   rw[y2]
theorem ZzI (d:DD23){X:ByteArray->Int}(h:ShOk d X){n:ByteArray}(sh:List ByteArray)(h0:X n≠0):byS (ZaV d X sh) n (-(X n))=ZaV d (updX X n 0) sh:=by
 unfold byS erasS shiftS ZaV trS
 dsimp only
 rw[List.map_map,List.map_map,List.map_map]
 congr 1
 ·refine List.map_congr_left fun r _=>?_
  show shN n (-(X n)) (trR X r)=trR (updX X n 0) r
  unfold shN trR updX
  by_cases hr:r.name=n
  ·rw[if_pos (show(shR (X r.name) r).name=n from hr),if_pos hr,hr,ZAL,Int.add_right_neg]
  ·rw[if_neg (show ¬ (shR (X r.name) r).name=n from hr),if_neg hr]
 ·refine List.map_congr_left fun z hz=>?_
  show Za4 (Zce n) (Za4 (shE n (-(X n))) (Za4 (trE X _) z))=_
  unfold Za4
  dsimp only
  rw[List.map_map,List.map_map]
  congr 1
  refine List.map_congr_left fun e he=>?_
  show Zce n (shE n (-(X n)) (trE X (outF X (Zai d).rules) e))=trE (updX X n 0) (outF (updX X n 0) (Zai d).rules) e
  by_cases hi:Zfp n e
  ·have y1:yE X e=X n:=by unfold yE;rw[if_pos hi.1,hi.2]
   have y2:yE (updX X n 0) e=0:=by unfold yE updX;rw[if_pos hi.1,if_pos hi.2]
   obtain⟨b,hb⟩:=h.e9 hz he
   have ht:=hb.turn2 (by rw[y1];exact h0)
   have i1:Zfp n (trE X (outF X (Zai d).rules) e):=hi
   have s1:shE n (-(X n)) (trE X (outF X (Zai d).rules) e)={ trE X (outF X (Zai d).rules) e with off:=(trE X (outF X (Zai d).rules) e).off - -(X n),til:=shU (trE X (outF X (Zai d).rules) e).til (-(X n)) }:=if_pos i1
   have i2:Zfp n (shE n (-(X n)) (trE X (outF X (Zai d).rules) e)):=by rw[s1];exact hi
   have o1:outF X (Zai d).rules e=Zcm (expF (Zai d).rules e):=if_neg (by rw[y1];exact h0)
   have o2:outF (updX X n 0) (Zai d).rules e=expF (Zai d).rules e:=if_pos y2
   unfold Zce
   rw[if_pos i2,s1]
   unfold trE
   dsimp only
   rw[y1,y2,o1,o2,ht,ZAK,Int.add_right_neg,show e.off - X n - -X n=e.off - 0 by omega]
  ·have y2:yE (updX X n 0) e=yE X e:=by
    unfold yE updX
    by_cases hk:e.kind=2
    ·rw[if_pos hk,if_pos hk,if_neg fun hh=>hi ⟨hk,hh⟩]
    ·rw[if_neg hk,if_neg hk]
   unfold Zce shE
   rw[if_neg (show ¬ Zfp n (trE X (outF X (Zai d).rules) e) from hi),if_neg (show ¬ Zfp n (trE X (outF X (Zai d).rules) e) from hi)]
   unfold trE outF
   rw[y2]
theorem ZtW {d:DD23}{X:ByteArray->Int}(h:ShOk d X){n:ByteArray}{y:Int}(hy:y=0\/y=X23 d n):ShOk d (updX X n y):=fun m=>by
 unfold updX
 by_cases hm:m=n
 ·rw[if_pos hm,hm]
  exact hy
 ·rw[if_neg hm]
  exact h m
theorem ZuZ {x:ByteArray}{l:List ByteArray}(h:x ∉ l):memB x l=false:=by
 cases hb:memB x l with
 | false=>rfl
 | true=>exact absurd ((Zdg _ _).1 hb) h
theorem Znr (x:ByteArray)(l:List ByteArray):memB x (x::l)=true:=by rw[memB,decide_eq_true rfl];rfl
theorem Znq {x y:ByteArray}(h:¬ y=x)(l:List ByteArray):memB x (y::l)=memB x l:=by rw[memB,decide_eq_false h];rfl
theorem ZmM {X:ByteArray->Int}{n m:ByteArray}{y:Int}(h:¬ m=n):updX X n y m=X m:=if_neg h
theorem ZAA (X:ByteArray->Int)(n:ByteArray)(y:Int):updX X n y n=y:=if_pos rfl
theorem ZgL {n m:ByteArray}{L:List ByteArray}(h:n ∉ L)(hm:m∈L):¬ m=n:=fun hh=>by
 rw[hh]at hm
 exact h hm
def onX (L:List ByteArray)(Y X:ByteArray->Int)(n:ByteArray):Int:=if memB n L=true then Y n else X n
theorem Zq5 {n:ByteArray}{L:List ByteArray}(h:n ∉ L)(Y X:ByteArray->Int):onX L Y (updX X n (Y n))=onX (n::L) Y X:=by
 funext m
 unfold onX
 by_cases hm:m=n
 ·subst hm
  rw[if_neg (by rw[ZuZ h];decide),if_pos (Znr _ _),ZAA]
 ·rw[Znq (fun hh=>hm hh.symm),ZmM hm]
theorem Zyb {n:ByteArray}{L:List ByteArray}(h:n ∉ L){Y X:ByteArray->Int}(hx:X n=Y n):onX L Y X=onX (n::L) Y X:=by
 funext m
 unfold onX
 by_cases hm:m=n
 ·subst hm
  rw[if_neg (by rw[ZuZ h];decide),if_pos (Znr _ _),hx]
 ·rw[Znq (fun hh=>hm hh.symm)]
theorem Zph (d:DD23):∀ (L:List ByteArray) (X:ByteArray->Int) (sh:List ByteArray),L.Nodup->(∀ n∈L,X n=0)->ZeU L (ZaV d X sh)=ZaV d (onX L (X23 d) X) (sh++L.filter fun n => !decide (X23 d n=0))
 | [],X,sh,_,_=>by
  rw[ZeU,List.filter_nil,List.append_nil]
  rfl
 | n::L,X,sh,hn,h0=>by
  obtain⟨n1,n2⟩:=List.nodup_cons.1 hn
  have hX:=h0 n List.mem_cons_self
  have e1:ofB (ZaV d X sh).rules n=ofB (Zai d).rules n:=by
   show ofB ((Zai d).rules.map (trR X)) n=_
   rw[ZhX,hX]
   exact(List.map_congr_left fun r _=>ZiR r).trans (List.map_id _)
  have hle:Zaj (ofB (Zai d).rules n)<=0:=(Zd0 _ 0).1
  rw[ZeU,e1]
  by_cases hl:Zaj (ofB (Zai d).rules n)<0
  ·have hx:X23 d n≠0:=by unfold X23;omega
   rw[if_pos hl,show -Zaj (ofB (Zai d).rules n)=X23 d n from rfl,ZCA d sh hX hx]
   have:=Zph d L (updX X n (X23 d n)) (sh++[n]) n2 fun m hm=>by
    rw[ZmM (ZgL n1 hm)]
    exact h0 m (List.mem_cons_of_mem _ hm)
   rw[show({ ZaV d (updX X n (X23 d n)) sh with shifts:=(ZaV d X sh).shifts++[n] }:Zac)=ZaV d (updX X n (X23 d n)) (sh++[n]) from rfl,this]
   rw[List.filter_cons,if_pos (by rw[decide_eq_false hx];rfl),List.append_assoc,List.singleton_append,Zq5 n1]
  ·have hx:X23 d n=0:=by unfold X23;omega
   rw[if_neg hl,Zph d L X sh n2 fun m hm=>h0 m (List.mem_cons_of_mem _ hm),List.filter_cons,if_neg (by rw[decide_eq_true hx];decide),Zyb n1 (hX.trans hx.symm)]
theorem Zev:∀ (l:List Zab)(acc:List ByteArray),(ZaS l acc).length<=acc.length+l.length
 | [],acc=>Nat.le_refl _
 | r::l,acc=>by
  rw[ZaS,List.length_cons]
  split
  ·have:=Zev l acc
   omega
  ·have:=Zev l (acc++[r.name])
   rw[List.length_append]at this
   simp only[List.length_cons,List.length_nil]at this
   omega
def sh23 (d:DD23):List ByteArray:=(ZaS (Zai d).rules []).filter fun n => !decide (X23 d n=0)
theorem ZlH {d:DD23}{n:ByteArray}(h:X23 d n≠0):n∈sh23 d:=by
 refine List.mem_filter.2 ⟨?_,by simpa using h⟩
 have hne:ofB (Zai d).rules n≠[]:=fun hh=>h ((ShOk.all d).empty hh)
 obtain⟨r,hr⟩:=List.exists_mem_of_ne_nil _ hne
 have h1:=List.mem_filter.1 hr
 exact(Zhx _ _ _).2 (.inr ⟨r,h1.1,of_decide_eq_true h1.2⟩)
theorem ZiS (d:DD23):(∀ n∈sh23 d,X23 d n≠0)/\(sh23 d).Nodup/\(sh23 d).length<=2000:=by
 have hn:=ZcY (Zai d).rules [] (by simp)
 refine⟨fun n h=>by simpa using(List.mem_filter.1 h).2,hn.filter _,?_⟩
 have h1:(sh23 d).length<=(ZaS (Zai d).rules []).length:=List.length_filter_le _ _
 have h2:=Zev (Zai d).rules []
 have:=(Zdp d).nr
 simp only[List.length_nil]at h2
 omega
theorem ZCc (d:DD23):ZsE (ZaV d (fun _=>0) [])=ZaV d (X23 d) (sh23 d):=by
 unfold ZsE
 rw[show(ZaV d (fun _=>0) []).rules=(Zai d).rules.map (trR fun _=>0) from rfl,Zfg,Zph d _ _ [] (ZcY _ [] (by simp)) fun _ _=>rfl,List.nil_append]
 show ZaV d _ (sh23 d)=_
 congr 1
 funext n
 unfold onX
 by_cases h:memB n (ZaS (Zai d).rules [])=true
 ·rw[if_pos h]
 ·rw[if_neg h]
  refine Decidable.byContradiction fun hh=>h ((Zdg _ _).2 ?_)
  exact(List.mem_filter.1 (ZlH (fun h0=>hh h0.symm))).1
theorem ZAB (d:DD23)(sh:List ByteArray):∀ (L:List ByteArray) (X:ByteArray->Int),ShOk d X->L.Nodup->(∀ n∈L,X n≠0)->unGo L (ZaV d X sh)=ZaV d (onX L (fun _=>0) X) sh
 | [],X,_,_,_=>rfl
 | n::L,X,hX,hn,h0=>by
  obtain⟨n1,n2⟩:=List.nodup_cons.1 hn
  have hx:=h0 n List.mem_cons_self
  obtain⟨_,a2,_,a4⟩:=ZkC hX hx
  have e1:ofB (ZaV d X sh).rules n=(ofB (Zai d).rules n).map (shR (X n)):=ZhX X _ n
  rw[unGo,e1,a4,show -((3600:Int),true).1 = -(X n) by rw[a2],ZzI d hX sh hx,ZAB d sh L (updX X n 0) (ZtW hX (.inl rfl)) n2 fun m hm=>by
   rw[ZmM (ZgL n1 hm)]
   exact h0 m (List.mem_cons_of_mem _ hm)]
  rw[Zq5 n1 (fun _=>0) X]
def in23 (d:DD23)(form:Int):Zac:=if form=1 then Zai d else if form=2 then ZaV d (fun _=>0) [] else ZaV d (X23 d) (sh23 d)
theorem ZoU (d:DD23):ZaL (ZaC (Zai d))=Zai d:=by
 have:ZaC (Zai d)=Zai d:=rfl
 rw[this,Zth]
theorem ZxL (d:DD23)(form:Int):toD form (Zai d)=in23 d form:=by
 unfold toD in23
 rw[ZoU]
 dsimp only
 rw[Zrw,ZCc]
theorem ZtV (d:DD23)(form:Int):ZaL (ZaC (in23 d form))=Zai d:=by
 unfold in23
 split
 ·exact ZoU d
 split
 ·exact Zn6 d
 ·have:ZaC (ZaV d (X23 d) (sh23 d))=ZaV d (fun _=>0) []:=by
   unfold ZaC
   obtain⟨s1,s2,_⟩:=ZiS d
   rw[show(ZaV d (X23 d) (sh23 d)).shifts=sh23 d from rfl,ZAB d _ _ _ (ShOk.all d) s2 s1]
   have e:onX (sh23 d) (fun _=>0) (X23 d)=fun _=>0:=by
    funext n
    unfold onX
    by_cases h:memB n (sh23 d)=true
    ·rw[if_pos h]
    ·rw[if_neg h]
     exact Decidable.byContradiction fun hh=>h ((Zdg _ _).2 (ZlH hh))
   rw[e]
   rfl
  rw[this,Zn6]
theorem ZB4 (d:DD23)(a b:Int):toD b (in23 d a)=in23 d b:=by
 rw[<- ZxL d b]
 unfold toD
 rw[ZtV,ZoU]
theorem Zis (d:DD23)(form:Int):accD (in23 d form)=none:=by
 unfold in23
 split
 ·exact ZfH d
 split
 ·exact Znh (ShOk.none d) (fun _ h=>by cases h) List.nodup_nil (by decide)
 ·obtain⟨s1,s2,s3⟩:=ZiS d
  exact Znh (ShOk.all d) s1 s2 s3
theorem Zyf {e:DEra}(o:Int):(numL e o).length<=15:=by
 have h1:=Zdm e.off
 have h2:=Zdm (e.off+e.save)
 have h3:=Zdm (e.off+o)
 unfold numL
 split
 ·omega
 split
 ·omega
 ·rw[List.length_append,List.length_cons]
  omega
theorem Zlb (l:List UInt8):(⟨l.toArray⟩:ByteArray).size=l.length:=by simp[ByteArray.size]
theorem ZtZ:∀ f∈fmtU,(Zcm f).size<=100:=by decide +kernel
theorem E9.outSz {X:ByteArray->Int}{rs:List Zab}{e:DEra}{b:Bool}(h:E9 X rs e b):(outF X rs e).size<=100:=by
 obtain⟨o,o1,o2,o3,o5⟩:=h.num
 obtain⟨n1,n2,n3⟩:=h.numK o1
 by_cases hp:e.format=pctB
 ·have hb:expF rs e=⟨(numL e o).toArray⟩:=by unfold expF numB;rw[if_pos hp,o2]
  have hl:=Zyf (e:=e) o
  unfold outF
  rcases h.y with hy|⟨hy,hk⟩
  ·rw[if_pos hy,hb,Zlb]
   omega
  ·have t1:=Zdm e.off
   have t2:=Zdm (e.off+o)
   rw[if_neg (by omega),hb,Zcm,show(⟨(numL e o).toArray⟩:ByteArray).data.toList=numL e o from rfl,n3 hk]
   show(⟨(ZaT (e.off+o)++47::ZaT e.off).toArray⟩:ByteArray).size<=100
   rw[Zlb,List.length_append,List.length_cons]
   omega
 ·have hb:expF rs e=e.format:=by unfold expF;rw[if_neg hp]
  unfold outF
  rw[hb]
  split
  ·exact Zrs h.dr.fmt
  ·exact ZtZ _ h.dr.fmt
theorem ZxT (d:DD23):(sh23 d).length<=100:=by
 have h1:(sh23 d).length<=(ZaS (Zai d).rules []).length:=List.length_filter_le _ _
 have h2:=Zev (Zai d).rules []
 have:=(Zdp d).nr
 simp only[List.length_nil]at h2
 omega
theorem Zng {d:DD23}{X:ByteArray->Int}(h:ShOk d X){sh:List ByteArray}(hl:sh.length<=100):Sml (ZaV d X sh):=by
 have hm:=Zdp d
 have hX:∀ n,0<=X n/\X n<=3600:=fun n=>by
  by_cases hn:X n=0
  ·omega
  ·have:=(ZkC h hn).2.1
   omega
 refine⟨?_,?_,hm.nl,hl,fun r hr=>?_,fun z hz=>?_,hm.ls⟩
 ·show((Zai d).rules.map (trR X)).length<=100
  rw[List.length_map]
  exact hm.nr
 ·show((Zai d).zones.map _).length<=100
  rw[List.length_map]
  exact hm.nz
 ·obtain⟨r',hr',rfl⟩:=List.mem_map.1 hr
  obtain⟨q1,q2⟩:=Zdy d r' hr'
  have h3:=q1.save
  have h4:=hX r'.name
  exact⟨q2,Zrf q1.letter,show -1000000<=r'.save+X r'.name by omega,show r'.save+X r'.name<=1000000 by omega⟩
 ·obtain⟨z',hz',rfl⟩:=List.mem_map.1 hz
  obtain⟨a1,a2,a3⟩:=hm.zs z' hz'
  refine⟨a1,by show(z'.eras.map _).length<=100;rw[List.length_map];exact a2,fun e he=>?_⟩
  obtain⟨e',he',rfl⟩:=List.mem_map.1 (show e∈z'.eras.map _ from he)
  obtain⟨b,hb⟩:=h.e9 hz' he'
  have q:=a3 e' he'
  obtain⟨o1,o2,_⟩:=hb.offs
  have hy:yE X e'=0\/yE X e'=3600:=by
   rcases hb.y with h|⟨h,_⟩
   ·exact .inl h
   ·exact .inr h
  exact⟨q.set,hb.outSz,show -1000000<=e'.off - yE X e'/\e'.off - yE X e'<=1000000 by omega,q.save,q.kind⟩
theorem ZgS (d:DD23)(f:Int):Sml (in23 d f):=by
 unfold in23
 split
 ·exact Zdp d
 split
 ·exact Zng (ShOk.none d) (Nat.zero_le _)
 ·exact Zng (ShOk.all d) (ZxT d)
theorem Zlw {f:Int}{s:Zac}(h1:1<=f/\f<=3)(hr:f=3->∀ r∈s.rules,0<=r.save)(hz:∀ z∈s.zones,∀ e∈z.eras,(f≠1->ZaP e.format.data.toList≠4)/\(f=1->ZaP e.format.data.toList≠5))(hs:f≠3->s.shifts=[]):Za7 f s=none:=by
 have e1:(s.rules.any fun r=>decide (r.save<0)&&decide (f=3))=false:=by
  rw[List.any_eq_false]
  intro r hr'
  by_cases h3:f=3
  ·have:=hr h3 r hr'
   rw[decide_eq_false (show ¬ r.save<0 by omega),Bool.false_and]
   decide
  ·rw[decide_eq_false h3,Bool.and_false]
   decide
 have e2:(s.zones.any fun z=>z.eras.any fun e=>(decide (ZaP e.format.data.toList=4)&&!decide (f=1))||(decide (ZaP e.format.data.toList=5)&&decide (f=1)))=false:=by
  rw[List.any_eq_false]
  intro z hz'
  rw[Bool.not_eq_true,List.any_eq_false]
  intro e he
  obtain⟨a1,a2⟩:=hz z hz' e he
  by_cases h:f=1
  ·rw[decide_eq_true h,decide_eq_false (a2 h)]
   simp
  ·rw[decide_eq_false h,decide_eq_false (a1 h)]
   simp
 unfold Za7
 rw[if_neg (by omega),Zrp e1]
 dsimp only
 rw[Zrp e2]
 dsimp only
 rw[if_neg]
 rintro⟨h3,h4⟩
 rw[hs h4]at h3
 cases h3
theorem Zx8 {d:DD23}:∀ r∈(ZaV d (X23 d) (sh23 d)).rules,0<=r.save:=fun r hr=>by
 obtain⟨r',hr',rfl⟩:=List.mem_map.1 hr
 have h:=(Zd0 (ofB (Zai d).rules r'.name) 0).2.1 r' (List.mem_filter.2 ⟨hr',decide_eq_true rfl⟩)
 show 0<=r'.save+X23 d r'.name
 unfold X23 Zaj
 omega
theorem Zq3 {d:DD23}{X:ByteArray->Int}(h:ShOk d X){sh:List ByteArray}:∀ z∈(ZaV d X sh).zones,∀ e∈z.eras,ZaP e.format.data.toList≠4:=fun z hz e he=>by
 obtain⟨z',hz',rfl⟩:=List.mem_map.1 hz
 obtain⟨e',he',rfl⟩:=List.mem_map.1 (show e∈z'.eras.map _ from he)
 obtain⟨b,hb⟩:=h.e9 hz' he'
 obtain⟨k1,k2⟩:=hb.kindO
 show ZaP (outF X (Zai d).rules e').data.toList≠4
 by_cases hp:e'.format=pctB
 ·rw[k1 hp]
  decide
 ·exact(k2 hp).1
theorem ZyC (d:DD23){f:Int}(h1:1<=f/\f<=3):Za7 f (in23 d f)=none:=by
 refine Zlw h1 (fun h3=>?_) (fun z hz e he=>⟨fun h=>?_,fun h=>?_⟩) fun h=>?_
 ·subst h3
  exact Zx8
 ·unfold in23 at hz
  rw[if_neg h]at hz
  split at hz
  ·exact Zq3 (ShOk.none d) z hz e he
  ·exact Zq3 (ShOk.all d) z hz e he
 ·subst h
  have hz:z∈(Zai d).zones:=hz
  obtain⟨b,hb⟩:=(ShOk.none d).e9 hz he
  exact of_decide_eq_false (Zrh hb.dr.fmt).2
 ·unfold in23
  split
  ·rfl
  ·rw[if_pos (by omega)]
   rfl
theorem Zvx {s:Zac}{f:Int}(ha:accD s=none)(h1:1<=f/\f<=3)(h:Za7 f s=none):f∈Zc0 s:=by
 unfold Zc0
 rw[ha,show(none:Option (Zas × Int)).isSome=false from rfl,if_neg (by decide),List.mem_filter]
 have hc:f=1\/f=2\/f=3:=by omega
 refine⟨?_,by rw[h];rfl⟩
 rcases hc with rfl|rfl|rfl
 ·exact .head _
 ·exact .tail _ (.head _)
 ·exact .tail _ (.tail _ (.head _))
theorem Zs4 (d:DD23)(f:Int):Zc0 (in23 d f)≠[]:=by
 have key:∀ g:Int,1<=g/\g<=3->Zc0 (in23 d g)≠[]:=fun g hg hh=>by
  have:=Zvx (Zis d g) hg (ZyC d hg)
  rw[hh]at this
  cases this
 by_cases h1:f=1
 ·subst h1
  exact key 1 (by decide)
 by_cases h2:f=2
 ·subst h2
  exact key 2 (by decide)
 ·have:in23 d f=in23 d 3:=by
   unfold in23
   rw[if_neg h1,if_neg h2,if_neg (by decide),if_neg (by decide)]
  rw[this]
  exact key 3 (by decide)
theorem Zrx {e:DEra}(h1 : -1000000000<=e.off/\e.off<=1000000000)(h2 : -1000000000<=e.save/\e.save<=1000000000)(h3 : -1000000000<=e.til.at_.sec/\e.til.at_.sec<=1000000000)(h4:e.format.size<=1000):eraM e=true:=by
 unfold eraM
 rw[ZbU.2 h1,ZbU.2 h2,ZbU.2 h3,decide_eq_true h4]
 rfl
theorem Zzr (c:Zb9){x:Int}(hx:x=0\/x=3600)(h:0<=c.sec/\c.sec<=86400) : -1000000000<=(mvC c x).sec/\(mvC c x).sec<=1000000000:=by
 unfold mvC
 split
 ·dsimp only
  omega
 ·omega
theorem ZAJ (u:ZaZ){x:Int}(hx:x=0\/x=3600)(h:0<=u.at_.sec/\u.at_.sec<=86400) : -1000000000<=(shU u x).at_.sec/\(shU u x).at_.sec<=1000000000:=by
 unfold shU
 split
 ·exact Zzr u.at_ hx h
 ·omega
theorem Zio {d:DD23}{X:ByteArray->Int}(h:ShOk d X)(sh:List ByteArray):srcM (ZaV d X sh)=true:=by
 have hX:∀ n,X n=0\/X n=3600:=fun n=>by
  by_cases hn:X n=0
  ·exact .inl hn
  ·exact .inr (ZkC h hn).2.1
 unfold srcM
 rw[Bool.and_eq_true,List.all_eq_true,List.all_eq_true]
 refine⟨fun r hr=>?_,fun z hz=>?_⟩
 ·obtain⟨r',hr',rfl⟩:=List.mem_map.1 hr
  obtain⟨q1,_⟩:=Zdy d r' hr'
  have h3:=q1.save
  have h4:=hX r'.name
  have h5:=q1.clk
  have h6:=Zzr r'.at_ h4 (by omega)
  unfold rulM
  rw[show(trR X r').save=r'.save+X r'.name from rfl,show(trR X r').at_=mvC r'.at_ (X r'.name) from rfl,ZbU.2 (by omega),ZbU.2 h6]
  rfl
 ·obtain⟨z',hz',rfl⟩:=List.mem_map.1 hz
  rw[List.all_eq_true]
  intro e he
  obtain⟨e',he',rfl⟩:=List.mem_map.1 (show e∈z'.eras.map _ from he)
  obtain⟨b,hb⟩:=h.e9 hz' he'
  obtain⟨o1,o2,o3,_⟩:=hb.offs
  have hs:=(hb.dr.sm fun r hr=>(Zdy d r hr).2).save
  have hy:yE X e'=0\/yE X e'=3600:=by
   rcases hb.y with h|⟨h,_⟩
   ·exact .inl h
   ·exact .inr h
  have hz:=hb.outSz
  exact Zrx (show -1000000000<=e'.off - yE X e'/\e'.off - yE X e'<=1000000000 by omega) (show -1000000000<=e'.save/\e'.save<=1000000000 by omega) (ZAJ e'.til hy hb.clk) (show(outF X (Zai d).rules e').size<=1000 by omega)
theorem Znv (d:DD23):srcM (Zai d)=true:=by
 unfold srcM
 rw[Bool.and_eq_true,List.all_eq_true,List.all_eq_true]
 refine⟨fun r hr=>?_,fun z hz=>?_⟩
 ·obtain⟨q1,_⟩:=Zdy d r hr
  have h3:=q1.save
  have h5:=q1.clk
  unfold rulM
  rw[ZbU.2 (by omega),ZbU.2 (by omega)]
  rfl
 ·rw[List.all_eq_true]
  intro e he
  obtain⟨b,hb⟩:=(ShOk.none d).e9 hz he
  obtain⟨o1,o2,o3,_⟩:=hb.offs
  have hs:=hb.dr.sm fun r hr=>(Zdy d r hr).2
  have hs1:=hs.save
  have hs2:=hs.fmt
  have hc:=hb.clk
  exact Zrx (by omega) (by omega) (by omega) (by omega)
theorem Zq4 {d:DD23}{X:ByteArray->Int}{sh:List ByteArray}{n:ByteArray}(h:ofB (Zai d).rules n≠[]):hasN (ZaV d X sh) n=true:=by
 obtain⟨r,hr⟩:=List.exists_mem_of_ne_nil _ h
 have h1:=List.mem_filter.1 hr
 exact List.any_eq_true.2 ⟨trR X r,List.mem_map.2 ⟨r,h1.1,rfl⟩,h1.2⟩
theorem ZB0 {d:DD23}(sh:List ByteArray):∀ (L:List ByteArray) (X:ByteArray->Int),ShOk d X->L.Nodup->(∀ n∈L,X n≠0)->unB L (ZaV d X sh)=true
 | [],_,_,_,_=>rfl
 | n::L,X,hX,hn,h0=>by
  obtain⟨n1,n2⟩:=List.nodup_cons.1 hn
  have hx:=h0 n List.mem_cons_self
  obtain⟨a1,a2,_,a4⟩:=ZkC hX hx
  have e1:ofB (ZaV d X sh).rules n=(ofB (Zai d).rules n).map (shR (X n)):=ZhX X _ n
  rw[unB,e1,a4,show -((3600:Int),true).1 = -(X n) by rw[a2],ZzI d hX sh hx,ZB0 sh L (updX X n 0) (ZtW hX (.inl rfl)) n2 fun m hm=>by
   rw[ZmM (ZgL n1 hm)]
   exact h0 m (List.mem_cons_of_mem _ hm)]
  unfold rngB
  rw[Zq4 a1,Zio hX,ZbU.2 (by omega)]
  rfl
theorem ZAQ {d:DD23}:∀ (L:List ByteArray) (X:ByteArray->Int) (sh:List ByteArray),ShOk d X->L.Nodup->(∀ n∈L,X n=0)->reB L (ZaV d X sh)=true
 | [],_,_,_,_,_=>rfl
 | n::L,X,sh,hX,hn,h0=>by
  obtain⟨n1,n2⟩:=List.nodup_cons.1 hn
  have hXn:=h0 n List.mem_cons_self
  have e1:ofB (ZaV d X sh).rules n=ofB (Zai d).rules n:=by
   show ofB ((Zai d).rules.map (trR X)) n=_
   rw[ZhX,hXn]
   exact(List.map_congr_left fun r _=>ZiR r).trans (List.map_id _)
  rw[reB,e1]
  by_cases hl:Zaj (ofB (Zai d).rules n)<0
  ·have hx:X23 d n≠0:=by unfold X23;omega
   obtain⟨a1,a2,_,_⟩:=ZkC (ShOk.all d) hx
   have hr:rngB (ZaV d X sh) n (X23 d n)=true:=by
    unfold rngB
    rw[Zq4 a1,Zio hX,ZbU.2 (by omega)]
    rfl
   rw[if_pos hl,show -Zaj (ofB (Zai d).rules n)=X23 d n from rfl,hr,ZCA d sh hXn hx]
   rw[show({ ZaV d (updX X n (X23 d n)) sh with shifts:=(ZaV d X sh).shifts++[n] }:Zac)=ZaV d (updX X n (X23 d n)) (sh++[n]) from rfl]
   exact ZAQ L _ _ (ZtW hX (.inr rfl)) n2 fun m hm=>by
    rw[ZmM (ZgL n1 hm)]
    exact h0 m (List.mem_cons_of_mem _ hm)
  ·rw[if_neg hl]
   exact ZAQ L X sh hX n2 fun m hm=>h0 m (List.mem_cons_of_mem _ hm)
theorem Zjm {rs:List Zab}{e:DEra}(h:ZdF e (Zaz rs e)=0):conE rs e=true:=by
 unfold conE
 by_cases hk:ZaP e.format.data.toList=5
 ·unfold ZdF at h
  dsimp only at h
  rw[hk,if_neg (by decide),if_neg (by decide),if_pos (.inr rfl)]at h
  split at h
  ·cases h
  rename_i h2
  have h3:(Zbi e (Zaz rs e)).2=0:=Decidable.byContradiction fun hh=>h2 (.inl hh)
  have h4:(Zbi e (Zaz rs e)).1=e.format.data.toList:=Decidable.byContradiction fun hh=>h2 (.inr ⟨rfl,hh⟩)
  rw[decide_eq_true h3,decide_eq_true h4]
  simp
 ·rw[decide_eq_false hk]
  rfl
theorem Zyk (d:DD23):conB (Zai d)=true:=by
 unfold conB
 rw[List.all_eq_true]
 intro z hz
 rw[List.all_eq_true]
 intro e he
 obtain⟨b,hb⟩:=(ShOk.none d).e9 hz he
 exact Zjm (ZeD hb.chk)
theorem ZAT (d:DD23):conB (ZaV d (fun _=>0) [])=true:=by
 unfold conB
 rw[List.all_eq_true]
 intro z hz
 obtain⟨z',hz',rfl⟩:=List.mem_map.1 hz
 rw[List.all_eq_true]
 intro e he
 obtain⟨e',he',rfl⟩:=List.mem_map.1 (show e∈z'.eras.map _ from he)
 obtain⟨b,hb⟩:=(ShOk.none d).e9 hz' he'
 refine Zjm ?_
 rw[show(ZaV d (fun _=>0) []).rules=(Zai d).rules.map (trR fun _=>0) from rfl,Zep]
 exact hb.tr.fmt
theorem Zyj (d:DD23):expB (Zai d)=true:=by
 unfold expB
 rw[List.all_eq_true]
 intro z hz
 rw[List.all_eq_true]
 intro e he
 obtain⟨b,hb⟩:=(ShOk.none d).e9 hz he
 obtain⟨o,_,o2,_⟩:=hb.num
 unfold expZ
 rw[o2]
 simp
theorem Zsq (d:DD23)(a:Int):ZaC (in23 d a)=if a=1 then Zai d else ZaV d (fun _=>0) []:=by
 unfold in23
 by_cases h1:a=1
 ·rw[if_pos h1,if_pos h1]
  rfl
 rw[if_neg h1,if_neg h1]
 split
 ·rfl
 ·unfold ZaC
  obtain⟨s1,s2,_⟩:=ZiS d
  rw[show(ZaV d (X23 d) (sh23 d)).shifts=sh23 d from rfl,ZAB d _ _ _ (ShOk.all d) s2 s1]
  have e:onX (sh23 d) (fun _=>0) (X23 d)=fun _=>0:=by
   funext n
   unfold onX
   by_cases h:memB n (sh23 d)=true
   ·rw[if_pos h]
   ·rw[if_neg h]
    exact Decidable.byContradiction fun hh=>h ((Zdg _ _).2 (ZlH hh))
  rw[e]
  rfl
theorem ZC9 (d:DD23)(a:Int):unB (in23 d a).shifts (in23 d a)=true:=by
 unfold in23
 split
 ·rfl
 split
 ·rfl
 ·obtain⟨s1,s2,_⟩:=ZiS d
  exact ZB0 _ _ _ (ShOk.all d) s2 s1
theorem ZyD (d:DD23)(a form:Int):toB form (in23 d a)=true:=by
 have hv:=ZtV d a
 unfold toB
 rw[ZC9,hv,Znv,Zyj,Zrw,Zio (ShOk.none d)]
 have h2:srcM (ZaC (in23 d a))=true/\conB (ZaC (in23 d a))=true:=by
  rw[Zsq]
  split
  ·exact⟨Znv d,Zyk d⟩
  ·exact⟨Zio (ShOk.none d) [],ZAT d⟩
 have h3:reB (ZaS (ZaV d (fun _=>0) []).rules []) (ZaV d (fun _=>0) [])=true:=by
  refine ZAQ _ _ _ (ShOk.none d) ?_ fun _ _=>rfl
  rw[show(ZaV d (fun _=>0) []).rules=(Zai d).rules.map (trR fun _=>0) from rfl,Zfg]
  exact ZcY _ [] (by simp)
 rw[h2.1,h2.2,h3]
 simp
def eirT:ByteArray:=⟨#[69,105,114,101]⟩
def dblT:ByteArray:=⟨#[69,117,114,111,112,101,47,68,117,98,108,105,110]⟩
def gmtF:ByteArray:=⟨#[71,77,84]⟩
def istF:ByteArray:=⟨#[73,83,84,47,71,77,84]⟩
def tsiF:ByteArray:=⟨#[71,77,84,47,73,83,84]⟩
def n01F:ByteArray:=⟨#[43,48,49,47,43,48,48]⟩
def n10F:ByteArray:=⟨#[43,48,48,47,43,48,49]⟩
def dubU:ZaZ:=⟨true,1968,10,⟨1,0,27⟩,⟨0,0⟩⟩
def noU:ZaZ:=⟨false,0,0,⟨0,0,0⟩,⟨0,0⟩⟩
def dubE:DEra:=⟨0,0,0,ByteArray.empty,gmtF,dubU⟩
def dub (base:Int)(f:ByteArray):Zac:=⟨[⟨eirT,1971,1971,10,⟨1,0,31⟩,⟨7200,base⟩,-3600,ByteArray.empty⟩,⟨eirT,1972,1048576,3,⟨3,0,15⟩,⟨7200,2⟩,0,ByteArray.empty⟩,⟨eirT,1972,1048576,10,⟨2,0,0⟩,⟨3600,2⟩,-3600,ByteArray.empty⟩],
 [⟨dblT,[dubE,⟨3600,2,0,eirT,f,noU⟩]⟩],[],[]⟩
def dubT (base sec:Int)(f:ByteArray):Zac:=⟨[⟨eirT,1971,1971,10,⟨1,0,31⟩,⟨sec,base⟩,0,ByteArray.empty⟩,⟨eirT,1972,1048576,3,⟨3,0,15⟩,⟨7200,2⟩,3600,ByteArray.empty⟩,⟨eirT,1972,1048576,10,⟨2,0,0⟩,⟨3600,2⟩,0,ByteArray.empty⟩],
 [⟨dblT,[dubE,⟨0,2,0,eirT,f,noU⟩]⟩],[],[eirT]⟩
def goes (s:Zac)(form:Int)(t:Zac):Bool:=decide (accD s=none)&&(!decide (Zc0 s=[])&&(toB form s&&decide (toD form s=t)))
theorem ZeF:goes (dub 2 istF) 3 (dubT 2 7200 tsiF)=true/\goes (dub 1 istF) 3 (dubT 1 3600 tsiF)=true/\goes (dub 2 pctB) 3 (dubT 2 7200 n10F)=true/\goes (dub 2 pctB) 2 (dub 2 n01F)=true/\goes (dub 2 istF) 2 (dub 2 istF)=true/\goes (dubT 1 3600 tsiF) 1 (dub 1 istF)=true:=by decide +kernel
theorem ZBf:accD (dubT 2 7200 pctB)=none/\Zc0 (dubT 2 7200 pctB)=[]/\Za7 1 (dubT 2 7200 pctB)=some (⟨4,0,0⟩,17):=by decide +kernel
end Go.Proofs.YtbjomhdhkpgbaaaGreatDoor
set_option maxHeartbeats 8000000
namespace Go.Proofs.YtbjomhdhkpgbaaaGreatDoor
open Go Go.RowKit Go.Wk
attribute [local irreducible] W RL Does Zar Zal retQ Calls Pu Stp RD Qy Ay Zak
theorem Zba (h:Int)(w:World)(hh:0<=h/\h<=100):Does Tryz.prog 72 [.int .i64 h] w (fun v O=>v = .agg #[.int .i64 (3600*h),.int .i64 2]/\O=[]):=by
 refine Zaa Tryz.func72 rfl rfl rfl rfl ?_
 repeat (first|(apply RL_pu;rfl;(apply ZeX;rfl;rfl;(constructor <;> omega)))|(refine js ?_;(refine bx ?_;intro bk))|refine walk1 ?_)
 exact ret_1 _ [] (.cellB rfl (by repeat' constructor) rfl rfl) .nil ⟨rfl,rfl⟩
def dubR (base:Int)(f:ByteArray)(v:Value)(O:List It):Prop:=∃ bR bE bZ,v=srcV (some ⟨bR,0,none⟩) (some ⟨bZ,0,none⟩) none none 3 1 0 0 (dub base f)/\O=[.blk bR ((dub base f).rules.flatMap Zab.enc) 56,.blk bE ((dub base f).zones.flatMap fun z=>z.eras.flatMap DEra.enc) 54,.blk bZ [.string dblT,.slice (some ⟨bE,0,none⟩) 2 2] 46]
theorem Zk4 (base:Int)(f:ByteArray)(w:World):Does Tryz.prog 33 [.int .i64 base,.string f] w (dubR base f):=by
 refine Zaa Tryz.func33 rfl rfl rfl rfl ?_
 repeat' (first|(refine js ?_;(first|(apply Zap (f:=72) (us:=[]) (cs:=[]) (vs:=[.int .i64 2]) (h:=fun w' _ _=>Zba 2 w' (by decide));rfl;rfl;rintro v O' ⟨rfl,rfl⟩)|(apply Zap (f:=72) (us:=[]) (cs:=[]) (vs:=[.int .i64 1]) (h:=fun w' _ _=>Zba 1 w' (by decide));rfl;rfl;rintro v O' ⟨rfl,rfl⟩)|(refine bx ?_;intro bk)))|refine walk ?_|(refine Zdc ?_;intro F;(first|(apply Zap (f:=72) (us:=[]) (cs:=[]) (vs:=[.int .i64 2]) (h:=fun w' _ _=>Zba 2 w' (by decide));rfl;rfl;rintro v O' ⟨rfl,rfl⟩)|(apply Zap (f:=72) (us:=[]) (cs:=[]) (vs:=[.int .i64 1]) (h:=fun w' _ _=>Zba 1 w' (by decide));rfl;rfl;rintro v O' ⟨rfl,rfl⟩));refine⟨_,EndsA,SubO.right _ _,?_⟩)|(refine ZCM (fun bk=>?_) ?_;rotate_left;intro F;(first|(apply Zap (f:=72) (us:=[]) (cs:=[]) (vs:=[.int .i64 2]) (h:=fun w' _ _=>Zba 2 w' (by decide));rfl;rfl;rintro v O' ⟨rfl,rfl⟩)|(apply Zap (f:=72) (us:=[]) (cs:=[]) (vs:=[.int .i64 1]) (h:=fun w' _ _=>Zba 1 w' (by decide));rfl;rfl;rintro v O' ⟨rfl,rfl⟩));refine⟨_,EndsA,SubO.right _ _,?_⟩)|(refine ZCL (fun bk=>?_) (fun bk=>?_) ?_;rotate_left 2;intro F;(first|(apply Zap (f:=72) (us:=[]) (cs:=[]) (vs:=[.int .i64 2]) (h:=fun w' _ _=>Zba 2 w' (by decide));rfl;rfl;rintro v O' ⟨rfl,rfl⟩)|(apply Zap (f:=72) (us:=[]) (cs:=[]) (vs:=[.int .i64 1]) (h:=fun w' _ _=>Zba 1 w' (by decide));rfl;rfl;rintro v O' ⟨rfl,rfl⟩));refine⟨_,EndsA,SubO.right _ _,?_⟩)|(refine RD_Lw ?_;intro F;(first|(apply Zap (f:=72) (us:=[]) (cs:=[]) (vs:=[.int .i64 2]) (h:=fun w' _ _=>Zba 2 w' (by decide));rfl;rfl;rintro v O' ⟨rfl,rfl⟩)|(apply Zap (f:=72) (us:=[]) (cs:=[]) (vs:=[.int .i64 1]) (h:=fun w' _ _=>Zba 1 w' (by decide));rfl;rfl;rintro v O' ⟨rfl,rfl⟩)|(refine bx ?_;intro bk)|(refine stA ?_)|(apply Zag;exact PuA));refine⟨_,EndsA,QFA,?_⟩)|(refine ZCK (fun bk=>?_) ?_;rotate_left;intro F;(first|(apply Zap (f:=72) (us:=[]) (cs:=[]) (vs:=[.int .i64 2]) (h:=fun w' _ _=>Zba 2 w' (by decide));rfl;rfl;rintro v O' ⟨rfl,rfl⟩)|(apply Zap (f:=72) (us:=[]) (cs:=[]) (vs:=[.int .i64 1]) (h:=fun w' _ _=>Zba 1 w' (by decide));rfl;rfl;rintro v O' ⟨rfl,rfl⟩)|(refine bx ?_;intro bk)|(refine stA ?_)|(apply Zag;exact PuA));refine⟨_,EndsA,QFA,?_⟩)|(refine ZCJ (fun bk=>?_) (fun bk=>?_) ?_;rotate_left 2;intro F;(first|(apply Zap (f:=72) (us:=[]) (cs:=[]) (vs:=[.int .i64 2]) (h:=fun w' _ _=>Zba 2 w' (by decide));rfl;rfl;rintro v O' ⟨rfl,rfl⟩)|(apply Zap (f:=72) (us:=[]) (cs:=[]) (vs:=[.int .i64 1]) (h:=fun w' _ _=>Zba 1 w' (by decide));rfl;rfl;rintro v O' ⟨rfl,rfl⟩)|(refine bx ?_;intro bk)|(refine stA ?_)|(apply Zag;exact PuA));refine⟨_,EndsA,QFA,?_⟩)|(apply RD_W;rfl;intro bk)|(refine ZDs rfl rfl rfl (fun bk=>?_) (fun bk=>?_))|(refine Zah rfl (fun hc=>?_) (fun hc=>?_)))
 all_goals exact ret_1 _ _ (.cellB rfl (by repeat' constructor) rfl rfl) SOA ⟨_,_,_,rfl,rfl⟩
end Go.Proofs.YtbjomhdhkpgbaaaGreatDoor
set_option maxHeartbeats 8000000
namespace Go.Proofs.YtbjomhdhkpgbaaaGreatDoor
open Go Go.RowKit Go.Wk
attribute [local irreducible] W RL Does Zar Zal retQ Calls Pu Stp RD Qy Ay Zak
theorem Zux {s:Zac}{nm:ByteArray}{es:List DEra}{n m:Nat}{bR bE bZ base:Nat}{O:List It}{w:World}(hz:s.zones=[⟨nm,es⟩])(hr:s.rules.length=n)(he:es.length=m)(hn:n<=100)(hm:m<=100)(hl:s.links=[])
  (hH:Zau base (.blk bR (s.rules.flatMap Zab.enc) 56 :: .blk bE (es.flatMap DEra.enc) 54 :: .blk bZ [.string nm,.slice (some ⟨bE,0,none⟩) m m] 46::O) w) :
  Zau base (rowR (some ⟨bR,0,none⟩) n s.rules::rowZ (some ⟨bZ,0,none⟩) 1 [(⟨⟨nm,es⟩,some ⟨bE,0,none⟩,m⟩:ZE)]::rowL none 0 s.links::ZaG ⟨⟨nm,es⟩,some ⟨bE,0,none⟩,m⟩::O) w:=by
 subst hr he
 have h1:=hH.toRow 11 (ZaJ Zab.len _) (by unfold maxLen;omega) .here
 have h2:=h1.toRow 13 (ZaJ DEra.len _) (by unfold maxLen;omega) (.there .here)
 have h3:=h2.toRow (m:=1) 2 rfl (by decide) (.there (.there .here))
 have h4:=h3.rowNil 69 2
 rw[hl]
 exact h4.sub STA
theorem ZpU (base:Int)(f:ByteArray)(w:World):Does Tryz.prog 33 [.int .i64 base,.string f] w (Zd4 (dub base f)) :=
 (Zk4 base f w).monoO fun v O ⟨bR,bE,bZ,h1,h2⟩=>by
  subst h1 h2
  refine⟨_,⟨_,_,_,_,none,0,none,0,[⟨⟨dblT,[dubE,⟨3600,2,0,eirT,f,noU⟩]⟩,some ⟨bE,0,none⟩,2⟩],rfl,rfl,rfl⟩,fun b w' hH=>?_⟩
  have h:=(Zux (s:=dub base f) (nm:=dblT) (es:=[dubE,⟨3600,2,0,eirT,f,noU⟩]) (n:=3) (m:=2) (O:=[]) rfl rfl rfl (by decide) (by decide) rfl hH).rowNil 9 1
  exact h.sub SOA
end Go.Proofs.YtbjomhdhkpgbaaaGreatDoor
