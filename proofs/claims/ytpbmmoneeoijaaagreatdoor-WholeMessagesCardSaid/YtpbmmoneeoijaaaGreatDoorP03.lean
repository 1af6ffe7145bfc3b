/-
  A part of the proof: DlLaw DlRow.
-/
import Derived.Test.YtpbmmoneeoijaaaGreatDoorP01
namespace Go.Proofs.YtpbmmoneeoijaaaGreatDoor.Dl
abbrev TL:=List (Int×Int)
def absL:Int→TL→TL
 |_,[]=>[]
 |acc,(i,b) :: l=>(i,acc+b) :: absL (acc+b) l
def insA (x:Int×Int):TL→TL
 | []=>[x]
 |y :: l=>if y.2≤x.2 then y :: insA x l else x :: y :: l
def srt (r:TL):TL:=r.foldl (fun l x=>insA x l) []
theorem zdl (r:TL) (x:Int×Int):srt (r ++ [x])=insA x (srt r):=by simp [srt]
theorem zs5 (x:Int×Int) (l:TL):(insA x l).length=l.length+1:=by
 induction l with
 |nil=>rfl
 |cons y l ih=>simp only [insA];split<;>simp [ih]
theorem zft {α:Type} {P:List α→Prop} (h0:P []) (h1:∀ l x,P l→P (l ++ [x])):∀ n (l:List α),l.length=n→P l:=by
 intro n
 induction n with
 |zero=>intro l hl;rw [List.eq_nil_of_length_eq_zero hl];exact h0
 |succ n ih=>
  intro l hl;rcases List.eq_nil_or_concat l with h|⟨l',x,h⟩
  ·rw [h];exact h0
  ·rw [h,List.concat_eq_append]
   refine h1 _ _ (ih l' ?_);rw [h] at hl;simpa using hl
theorem zxu (r:TL):(srt r).length=r.length:=by
 refine zft (P:=fun r=>(srt r).length=r.length) rfl (fun l x ih=>?_) _ r rfl;rw [zdl,zs5,ih];simp
theorem zu7 {x y:Int×Int} {l:TL}:y∈insA x l↔y=x∨y∈l:=by
 induction l with
 |nil=>simp [insA]
 |cons z l ih=>
  simp only [insA]
  split
  ·rw [List.mem_cons,ih,List.mem_cons]
   constructor<;>(intro h;rcases h with h|h|h<;>simp [h])
  ·simp
theorem zld {r:TL} {y:Int×Int}:y∈srt r↔y∈r:=by
 refine zft (P:=fun r=>y∈srt r↔y∈r) (by rfl) (fun l x ih=>?_) _ r rfl;rw [zdl,zu7,ih];simp [or_comm]
theorem zt6 {acc:Int} {l:TL} (h:∀ x∈l,0≤x.2):∀ y∈absL acc l,acc≤y.2:=by
 induction l generalizing acc with
 |nil=>intro y hy;cases hy
 |cons x l ih=>
  obtain⟨i,b⟩:=x;intro y hy;have hb:(0:Int)≤b:=h (i,b) (by simp);simp only [absL,List.mem_cons] at hy;rcases hy with rfl|hy
  ·show acc≤acc+b;omega
  ·have:=ih (acc:=acc+b) (fun x hx=>h x (by simp [hx])) y hy
   omega
theorem zmt (acc:Int) (l:TL):(absL acc l).length=l.length:=by
 induction l generalizing acc with
 |nil=>rfl
 |cons x l ih=>obtain⟨i,b⟩:=x;simp [absL,ih]
def insF (id:Int):Int→TL→TL
 |t,[]=>[(id,t)]
 |t,(i,b) :: l=>if b≤t then (i,b) :: insF id (t - b) l else (id,t) :: (i,b - t) :: l
theorem zvt (id:Int):∀ (l:TL) (acc t:Int),absL acc (insF id t l)=insA (id,acc+t) (absL acc l)
 | [],acc,t=>rfl
 |(i,b) :: l,acc,t=>by
  simp only [insF];by_cases h:b≤t
  ·rw [if_pos h]
   simp only [absL,insA];rw [if_pos (show acc+b≤acc+t by omega),zvt id l,show acc+b+(t - b)=acc+t by omega]
  ·rw [if_neg h]
   simp only [absL,insA];rw [if_neg (show ¬ (acc+b≤acc+t) by omega),show acc+t+(b - t)=acc+b by omega]
def za1 (id:Int):TL→TL×Bool
 | []=>([],false)
 |(i,b) :: l=>if i=id then ((match l with| []=>[]|(j,c) :: m=>(j,c+b) :: m),true) else ((i,b) :: (za1 id l).1,(za1 id l).2)
theorem zmu (id:Int):∀ (l:TL) (acc:Int),absL acc (za1 id l).1=(absL acc l).eraseP (fun x=>x.1=id)∧((za1 id l).2=true↔∃ x∈absL acc l,x.1=id)
 | [],acc=>⟨rfl,by simp [za1,absL]⟩
 |(i,b) :: l,acc=>by
  by_cases h:i=id
  ·refine⟨?_,?_⟩
   ·simp only [za1,if_pos h,absL]
    rw [List.eraseP_cons_of_pos (by simpa using h)]
    cases l with
    |nil=>rfl
    |cons y m=>
     obtain⟨j,c⟩:=y;simp only [absL];rw [show acc+(c+b)=acc+b+c by omega]
   ·simp only [za1,if_pos h,absL,true_iff]
    exact⟨_,List.mem_cons_self,h⟩
  ·obtain⟨h1,h2⟩:=zmu id l (acc+b)
   refine⟨?_,?_⟩
   ·simp only [za1,if_neg h,absL]
    rw [List.eraseP_cons_of_neg (by simpa using h),h1]
   ·simp only [za1,if_neg h,absL,h2]
    simp [h]
def dueF (id:Int):Int→TL→Option Int
 |_,[]=>none
 |acc,(i,b) :: l=>if i=id then some (acc+b) else dueF id (acc+b) l
def look (id:Int) (l:TL):Option Int:=(l.find? (fun x=>x.1=id)).map (·.2)
theorem zmc (id:Int):∀ (l:TL) (acc:Int),dueF id acc l=look id (absL acc l)
 | [],acc=>rfl
 |(i,b) :: l,acc=>by
  by_cases h:i=id
  ·simp [dueF,look,absL,h]
  ·simp only [dueF,if_neg h,absL]
   rw [zmc id l];simp [look,h]
def popF:TL→List Int×TL
 | []=>([],[])
 |(i,b) :: l=>if b=0 then (i :: (popF l).1,(popF l).2) else ([],(i,b) :: l)
def zxp:TL→List Int×TL
 | []=>([],[])
 |(i,b) :: l=>popF ((i,b - 1) :: l)
def dec (x:Int×Int):Int×Int:=(x.1,x.2 - 1)
theorem absL_dec (i b:Int) (l:TL) (acc:Int):absL acc ((i,b - 1) :: l)=(absL acc ((i,b) :: l)).map dec:=by
 have key:∀ (l:TL) (acc:Int),absL (acc - 1) l=(absL acc l).map dec:=by
  intro l
  induction l with
  |nil=>intro acc;rfl
  |cons x l ih=>
   intro acc;obtain⟨i,b⟩:=x;simp only [absL,List.map_cons];rw [show acc - 1+b=acc+b - 1 by omega,ih];rfl
 simp only [absL,List.map_cons];rw [show acc+(b - 1)=acc+b - 1 by omega,key];rfl
theorem zzu:∀ (l:TL),(∀ x∈l,0≤x.2)→(popF l).1=((absL 0 l).filter (fun x=>x.2=0)).map (·.1)∧absL 0 (popF l).2=(absL 0 l).filter (fun x=>x.2≠0)
 | [],_=>⟨rfl,rfl⟩
 |(i,b) :: l,h=>by
  have hb:(0:Int)≤b:=h (i,b) (by simp);by_cases h0:b=0
  ·subst h0
   obtain⟨h1,h2⟩:=zzu l fun x hx=>h x (by simp [hx]);simp only [popF,if_true,absL,Int.add_zero];rw [List.filter_cons_of_pos (by simp),List.filter_cons_of_neg (by simp)];exact⟨by rw [List.map_cons,←h1],h2⟩
  ·simp only [popF,if_neg h0]
   have hge:=zt6 (acc:=0+b) (l:=l) fun x hx=>h x (by simp [hx]);have hall:∀ y∈absL 0 ((i,b) :: l),y.2≠0:=fun y hy=>by
    simp only [absL,List.mem_cons] at hy;rcases hy with rfl|hy
    ·show 0+b≠0;omega
    ·have:=hge y hy;omega
   refine⟨?_,?_⟩
   ·rw [List.filter_eq_nil_iff.2 fun y hy=>by simpa using hall y hy];rfl
   ·exact (List.filter_eq_self.2 fun y hy=>by simpa using hall y hy).symm
def zob (l:TL):Prop:=l.Pairwise (fun x y=>x.2≤y.2)
theorem zs4 {x:Int×Int} {l:TL} (h:zob l):zob (insA x l):=by
 induction l with
 |nil=>simp [insA,zob]
 |cons y l ih=>
  obtain⟨h1,h2⟩:=List.pairwise_cons.1 h;simp only [insA]
  split
  ·rename_i hle
   refine List.pairwise_cons.2 ⟨fun z hz=>?_,ih h2⟩;rcases zu7.1 hz with rfl|hz
   ·exact hle
   ·exact h1 z hz
  ·rename_i hle
   refine List.pairwise_cons.2 ⟨fun z hz=>?_,h⟩;rcases List.mem_cons.1 hz with rfl|hz
   ·omega
   ·have:=h1 z hz;omega
theorem zxt (r:TL):zob (srt r):=by
 refine zft (P:=fun r=>zob (srt r)) List.Pairwise.nil (fun l x ih=>?_) _ r rfl;rw [zdl];exact zs4 ih
theorem zAi {x:Int×Int} {l:TL} (h:∀ y∈l,x.2 < y.2):insA x l=x :: l:=by
 cases l with
 |nil=>rfl
 |cons y l=>
  simp only [insA];rw [if_neg (by have:=h y (by simp);omega)]
theorem zAg {x:Int×Int} {l:TL} (h:∀ y∈l,y.2≤x.2):insA x l=l ++ [x]:=by
 induction l with
 |nil=>rfl
 |cons y l ih=>
  simp only [insA];rw [if_pos (h y (by simp)),ih fun z hz=>h z (by simp [hz])];rfl
theorem ztf (P:Int×Int→Bool) (x:Int×Int) {l:TL} (hs:zob l):(insA x l).filter P=if P x then insA x (l.filter P) else l.filter P:=by
 induction l with
 |nil=>simp only [insA,List.filter_nil];split<;>simp [*]
 |cons y l ih=>
  obtain⟨h1,h2⟩:=List.pairwise_cons.1 hs;simp only [insA];by_cases hle:y.2≤x.2
  ·rw [if_pos hle]
   cases hy:P y
   ·rw [List.filter_cons_of_neg (by simp [hy]),List.filter_cons_of_neg (by simp [hy]),ih h2]
   ·rw [List.filter_cons_of_pos hy,List.filter_cons_of_pos hy,ih h2]
    split
    ·simp only [insA];rw [if_pos hle]
    ·rfl
  ·rw [if_neg hle]
   cases hx:P x
   ·rw [List.filter_cons_of_neg (by simp [hx])];simp
   ·rw [List.filter_cons_of_pos hx]
    simp only [if_true];refine (zAi fun z hz=>?_).symm;rcases List.mem_cons.1 (List.mem_filter.1 hz).1 with rfl|hz
    ·omega
    ·have:=h1 z hz;omega
theorem zjl (P:Int×Int→Bool) (r:TL):srt (r.filter P)=(srt r).filter P:=by
 refine zft (P:=fun r=>srt (r.filter P)=(srt r).filter P) rfl (fun l x ih=>?_) _ r rfl;rw [List.filter_append,zdl,ztf P x (zxt l)]
 cases hx:P x
 ·rw [List.filter_cons_of_neg (by simp [hx]),List.filter_nil,List.append_nil,ih];simp
 ·rw [List.filter_cons_of_pos hx,List.filter_nil,zdl,ih];simp
theorem insA_dec (x:Int×Int) (l:TL):insA (dec x) (l.map dec)=(insA x l).map dec:=by
 induction l with
 |nil=>rfl
 |cons y l ih=>
  simp only [List.map_cons,insA];by_cases h:y.2≤x.2
  ·rw [if_pos h,if_pos (show (dec y).2≤(dec x).2 by simp only [dec];omega),ih];rfl
  ·rw [if_neg h,if_neg (show ¬ (dec y).2≤(dec x).2 by simp only [dec];omega)];rfl
theorem srt_dec (r:TL):srt (r.map dec)=(srt r).map dec:=by
 refine zft (P:=fun r=>srt (r.map dec)=(srt r).map dec) rfl (fun l x ih=>?_) _ r rfl;rw [List.map_append,List.map_cons,List.map_nil,zdl,zdl,ih,insA_dec]
theorem zzf {t:Int} {r:TL} (h:∀ x∈r,x.2=t):srt r=r:=by
 revert h
 refine zft (P:=fun r=>(∀ x∈r,x.2=t)→srt r=r) (fun _=>rfl) (fun l x ih h=>?_) _ r rfl;have hl:∀ x∈l,x.2=t:=fun y hy=>h y (by simp [hy]);rw [zdl,ih hl];exact zAg fun y hy=>by rw [hl y hy,h x (by simp)];exact Int.le_refl _
def Dist (l:TL):Prop:=l.Pairwise (fun x y=>x.1≠y.1)
theorem zAh (x:Int×Int) (l:TL):(insA x l).Perm (x :: l):=by
 induction l with
 |nil=>exact List.Perm.refl _
 |cons y l ih=>
  simp only [insA]
  split
  ·exact (ih.cons y).trans (List.Perm.swap x y l)
  ·exact List.Perm.refl _
theorem srt_perm (r:TL):(srt r).Perm r:=by
 refine zft (P:=fun r=>(srt r).Perm r) (List.Perm.refl _) (fun l x ih=>?_) _ r rfl;rw [zdl];exact (zAh x _).trans ((ih.cons x).trans (List.perm_append_comm (l₁:=[x]) (l₂:=l)))
theorem zvi {r:TL} (h:Dist r):Dist (srt r):=(srt_perm r).symm.pairwise h fun hne=>hne.symm
theorem zrg {id:Int} {l:TL} (h:Dist l):l.eraseP (fun x=>x.1=id)=l.filter (fun x=>x.1≠id):=by
 induction l with
 |nil=>rfl
 |cons y l ih=>
  obtain⟨h1,h2⟩:=List.pairwise_cons.1 h;by_cases hy:y.1=id
  ·rw [List.eraseP_cons_of_pos (by simpa using hy),List.filter_cons_of_neg (by simpa using hy)]
   exact (List.filter_eq_self.2 fun z hz=>by have:=h1 z hz;simp;exact fun e=>this (hy.trans e.symm)).symm
  ·rw [List.eraseP_cons_of_neg (by simpa using hy),List.filter_cons_of_pos (by simpa using hy),ih h2]
theorem ziv {id t:Int} {l:TL} (h:Dist l):look id l=some t↔(id,t)∈l:=by
 induction l with
 |nil=>simp [look]
 |cons y l ih=>
  obtain⟨h1,h2⟩:=List.pairwise_cons.1 h;obtain⟨i,b⟩:=y;by_cases hy:i=id
  ·subst hy
   have e0:look i ((i,b) :: l)=some b:=by simp [look]
   rw [e0];simp only [Option.some.injEq,List.mem_cons,Prod.mk.injEq,true_and];constructor
   ·intro e;exact .inl e.symm
   ·rintro (e|e)
    ·exact e.symm
    ·exact (h1 (i,t) e rfl).elim
  ·have:look id ((i,b) :: l)=look id l:=by simp [look,hy]
   rw [this,ih h2];simp [Ne.symm hy]
theorem look_eq {id:Int} {l m:TL} (hl:Dist l) (hm:Dist m) (h:∀ x,x∈l↔x∈m):look id l=look id m:=by
 cases h1:look id l with
 |some t=>exact ((ziv hm).2 ((h _).1 ((ziv hl).1 h1))).symm
 |none=>
  cases h2:look id m with
  |none=>rfl
  |some t=>rw [(ziv hl).2 ((h _).2 ((ziv hm).1 h2))] at h1;cases h1
theorem zlv {id:Int} {l:TL}:look id l=none↔∀ x∈l,x.1≠id:=by
 simp [look,List.find?_eq_none]
structure DInv (A r:TL):Prop where
 abs:absL 0 A=srt r
 nn:∀ x∈A,0≤x.2
 tk:∀ x∈r,1≤x.2∧x.2≤65536
 ds:Dist r
 len:r.length≤64
theorem DInv.size {A r:TL} (h:DInv A r):A.length=r.length:=by
 have:=congrArg List.length h.abs
 rwa [zmt,zxu] at this
theorem zvj:DInv [] []:=⟨rfl,fun x hx=>(by cases hx),fun x hx=>(by cases hx),List.Pairwise.nil,by simp⟩
theorem DInv.due {A r:TL} (h:DInv A r) (id:Int):dueF id 0 A=look id r:=by
 rw [zmc,h.abs];exact look_eq (zvi h.ds) h.ds fun x=>zld
theorem zt7 {acc:Int} {l:TL} (h0:0≤acc) (h:∀ x∈l,0≤x.2) {B:Int} (hB:∀ y∈absL acc l,y.2≤B):∀ x∈l,x.2≤B:=by
 induction l generalizing acc with
 |nil=>intro x hx;cases hx
 |cons y l ih=>
  obtain⟨i,b⟩:=y;have hb:(0:Int)≤b:=h (i,b) (by simp);have h1:acc+b≤B:=hB (i,acc+b) (by simp [absL]);intro x hx;rcases List.mem_cons.1 hx with rfl|hx
  ·show b≤B;omega
  ·exact ih (acc:=acc+b) (by omega) (fun x hx=>h x (by simp [hx])) (fun y hy=>hB y (by simp [absL,hy])) x hx
theorem DInv.bound {A r:TL} (h:DInv A r):∀ x∈A,0≤x.2∧x.2≤65536:=fun x hx=>
 ⟨h.nn x hx,zt7 (Int.le_refl 0) h.nn (fun y hy=>by rw [h.abs] at hy;exact (h.tk y (zld.1 hy)).2) x hx⟩
theorem DInv.absb {A r:TL} (h:DInv A r):∀ y∈absL 0 A,1≤y.2∧y.2≤65536:=fun y hy=>h.tk y (zld.1 (h.abs▸hy))
def zrk (id:Int) (r:TL):TL:=r.filter fun x=>x.1≠id
theorem zrq (id:Int):∀ (l:TL),(∀ x∈l,0≤x.2)→∀ x∈(za1 id l).1,0≤x.2
 | [],_=>fun x hx=>by cases hx
 |(i,b) :: l,h=>by
  have hb:(0:Int)≤b:=h (i,b) (by simp);have hl:∀ x∈l,0≤x.2:=fun x hx=>h x (by simp [hx]);simp only [za1]
  split
  ·cases l with
   |nil=>intro x hx;cases hx
   |cons y m=>
    obtain⟨j,c⟩:=y;have hc:(0:Int)≤c:=hl (j,c) (by simp);intro x hx;rcases List.mem_cons.1 hx with rfl|hx
    ·show 0≤c+b;omega
    ·exact hl x (by simp [hx])
  ·intro x hx
   rcases List.mem_cons.1 hx with rfl|hx
   ·exact hb
   ·exact zrq id l hl x hx
theorem DInv.cancel {A r:TL} (h:DInv A r) (id:Int):DInv (za1 id A).1 (zrk id r)∧((za1 id A).2=true↔∃ x∈r,x.1=id):=by
 obtain⟨h1,h2⟩:=zmu id A 0;refine⟨⟨?_,zrq id A h.nn,fun x hx=>h.tk x (List.mem_filter.1 hx).1,List.Pairwise.filter _ h.ds,Nat.le_trans (List.length_filter_le _ _) h.len⟩,?_⟩
 ·rw [h1,h.abs,zrg (zvi h.ds)]
  exact (zjl _ r).symm
 ·rw [h2,h.abs]
  constructor
  ·rintro⟨x,hx,e⟩;exact⟨x,zld.1 hx,e⟩
  ·rintro⟨x,hx,e⟩;exact⟨x,zld.2 hx,e⟩
theorem ins_nn (id:Int):∀ (l:TL) (t:Int),0≤t→(∀ x∈l,0≤x.2)→∀ x∈insF id t l,0≤x.2
 | [],t,ht,_=>fun x hx=>by
  simp only [insF,List.mem_singleton] at hx;subst hx;exact ht
 |(i,b) :: l,t,ht,h=>by
  have hb:(0:Int)≤b:=h (i,b) (by simp);have hl:∀ x∈l,0≤x.2:=fun x hx=>h x (by simp [hx]);simp only [insF]
  split
  ·rename_i hle
   intro x hx;rcases List.mem_cons.1 hx with rfl|hx
   ·exact hb
   ·exact ins_nn id l (t - b) (by omega) hl x hx
  ·rename_i hle
   intro x hx;simp only [List.mem_cons] at hx;rcases hx with rfl|rfl|hx
   ·exact ht
   ·show 0≤b - t;omega
   ·exact hl x hx
theorem DInv.add {A r:TL} (h:DInv A r) (id t:Int) (ht:1≤t∧t≤65536) (hn:(zrk id r).length < 64):DInv (insF id t (za1 id A).1) (zrk id r ++ [(id,t)]):=by
 obtain⟨hc,_⟩:=h.cancel id;refine⟨?_,ins_nn id _ t (by omega) hc.nn,fun x hx=>?_,?_,?_⟩
 ·rw [zvt,hc.abs,zdl,Int.zero_add]
 ·rcases List.mem_append.1 hx with hx|hx
  ·exact hc.tk x hx
  ·simp only [List.mem_singleton] at hx;subst hx;exact ht
 ·refine List.pairwise_append.2 ⟨hc.ds,List.pairwise_singleton ..,fun x hx y hy=>?_⟩
  simp only [List.mem_singleton] at hy;subst hy;simpa using (List.mem_filter.1 hx).2
 ·rw [List.length_append];simp;omega
theorem zrj {id:Int} {r:TL} (h:∃ x∈r,x.1=id):(zrk id r).length < r.length:=by
 obtain⟨x,hx,e⟩:=h;refine Nat.lt_of_le_of_ne (List.length_filter_le _ _) fun he=>?_;have:=List.filter_eq_self.1 (List.filter_sublist.eq_of_length he) x hx;simp [e] at this
def leftR (r:TL):TL:=(r.filter fun x=>x.2≠1).map dec
def dueR (r:TL):List Int:=(r.filter fun x=>x.2=1).map (·.1)
theorem zuu:∀ (l:TL),∀ x∈(popF l).2,x∈l
 | [],x,hx=>by cases hx
 |(i,b) :: l,x,hx=>by
  simp only [popF] at hx
  split at hx
  ·exact List.mem_cons_of_mem _ (zuu l x hx)
  ·exact hx
theorem DInv.tick {A r:TL} (h:DInv A r):DInv (zxp A).2 (leftR r)∧(zxp A).1=dueR r:=by
 cases A with
 |nil=>
  have hr:r=[]:=by
   have:=h.size;exact List.eq_nil_of_length_eq_zero this.symm
  subst hr;exact⟨zvj,rfl⟩
 |cons y l=>
  obtain⟨i,b⟩:=y;have hb1:1≤b:=by have:=(h.absb (i,0+b) (by simp [absL])).1;simpa using this
  have hnn:∀ x∈((i,b - 1) :: l:TL),0≤x.2:=fun x hx=>by
   rcases List.mem_cons.1 hx with rfl|hx
   ·show 0≤b - 1;omega
   ·exact h.nn x (by simp [hx])
  obtain⟨h1,h2⟩:=zzu _ hnn;rw [absL_dec,h.abs] at h1 h2;have hf0:(fun x:Int×Int=>decide (x.2=0)) ∘ dec=fun x=>decide (x.2=1):=by
   funext x;obtain⟨xi,xt⟩:=x;show decide _=decide _;rw [decide_eq_decide];show (xt - 1=0)↔xt=1;omega
  have hf1:(fun x:Int×Int=>decide (x.2≠0)) ∘ dec=fun x=>decide (x.2≠1):=by
   funext x;obtain⟨xi,xt⟩:=x;show decide _=decide _;rw [decide_eq_decide];show (xt - 1≠0)↔xt≠1;omega
  rw [List.filter_map,hf0,List.map_map] at h1;rw [List.filter_map,hf1] at h2;refine⟨⟨?_,fun x hx=>hnn x (zuu _ x hx),fun x hx=>?_,?_,?_⟩,?_⟩
  ·show absL 0 (popF ((i,b - 1) :: l)).2=_
   rw [h2];unfold leftR;rw [srt_dec,zjl]
  ·obtain⟨z,hz,rfl⟩:=List.mem_map.1 hx
   obtain⟨hz1,hz2⟩:=List.mem_filter.1 hz;have:=h.tk z hz1;have hz2:z.2≠1:=by simpa using hz2
   show 1≤z.2 - 1∧z.2 - 1≤65536;omega
  ·exact List.Pairwise.map _ (fun _ _ h=>h) (List.Pairwise.filter _ h.ds)
  ·unfold leftR
   rw [List.length_map];exact Nat.le_trans (List.length_filter_le _ _) h.len
  ·show (popF ((i,b - 1) :: l)).1=_
   rw [h1];unfold dueR;rw [←zjl,zzf (t:=1) (r:=r.filter fun x=>decide (x.2=1)) fun x hx=>by simpa using (List.mem_filter.1 hx).2];rfl
def tlOf (L:List (Nat×Int×Int)):TL:=L.map fun x=>(x.2.1,x.2.2)
theorem zco (L:List (Nat×Int×Int)):(tlOf L).length=L.length:=List.length_map ..
def zge:List (Nat×Int×Int)→Option Addr
 | []=>none
 |(b,_,_) :: _=>some ⟨b,0,none⟩
theorem zed {L:List (Nat×Int×Int)} {k:Nat} (h:k < L.length):zge (L.drop k)=some ⟨(L[k]).1,0,none⟩:=by
 rw [List.drop_eq_getElem_cons h];rfl
theorem zeh {L:List (Nat×Int×Int)} {k:Nat} (h:L.length≤k):zge (L.drop k)=none:=by
 rw [List.drop_eq_nil_of_le h];rfl
def idxB (b:Nat) (L:List (Nat×Int×Int)):Nat:=L.findIdx fun x=>x.1 == b
theorem zo8 {L:List (Nat×Int×Int)} (hn:(L.map (·.1)).Nodup) {k:Nat} (h:k < L.length):idxB (L[k]).1 L=k:=by
 unfold idxB;rw [List.findIdx_eq h];refine⟨by simp,fun j hj=>?_⟩;have h1:=(List.nodup_iff_pairwise_ne.1 hn);have:=List.pairwise_iff_getElem.1 h1 j k (by simpa using Nat.lt_trans hj h) (by simpa using h) hj;simpa using this
theorem zf5 {L:List (Nat×Int×Int)} (hn:(L.map (·.1)).Nodup) {j k:Nat} (hj:j < L.length) (hk:k < L.length) (h:j≠k):(L[j]).1≠(L[k]).1:=fun e=>by
 have h1:=zo8 hn hj;have h2:=zo8 hn hk;rw [e] at h1;omega
def sumB:Nat→List (Nat×Int×Int)→Int
 |0,_=>0
 |_,[]=>0
 |k+1,(_,_,b) :: l=>b+sumB k l
def insL (nb:Nat) (id:Int):Int→List (Nat×Int×Int)→List (Nat×Int×Int)
 |t,[]=>[(nb,id,t)]
 |t,(b,i,k) :: l=>if k≤t then (b,i,k) :: insL nb id (t - k) l else (nb,id,t) :: (b,i,k - t) :: l
theorem zly (nb:Nat) (id:Int):∀ (L:List (Nat×Int×Int)) (t:Int),tlOf (insL nb id t L)=insF id t (tlOf L)
 | [],t=>rfl
 |(b,i,k) :: l,t=>by
  simp only [insL,tlOf,List.map_cons,insF];by_cases h:k≤t
  ·rw [if_pos h,if_pos h,List.map_cons]
   have:=zly nb id l (t - k);unfold tlOf at this;rw [this]
  ·rw [if_neg h,if_neg h];rfl
def bump (t:Int):List (Nat×Int×Int)→List (Nat×Int×Int)
 | []=>[]
 |(b,i,k) :: l=>(b,i,k - t) :: l
theorem zo6 (nb:Nat) (id:Int):∀ (L:List (Nat×Int×Int)) (t u:Int) (k:Nat),k≤L.length→insL nb id t L=L.take k ++ insL nb id u (L.drop k)→(∀ h:k < L.length,u < (L[k]).2.2)→insL nb id t L=L.take k ++ (nb,id,u) :: bump u (L.drop k)
 |L,t,u,k,hk,h,hlt=>by
  rw [h]
  congr 1
  by_cases h1:k < L.length
  ·have h2:=hlt h1
   rw [List.drop_eq_getElem_cons h1];obtain⟨⟨b,i,c⟩,hx⟩:∃ x,L[k]=x:=⟨_,rfl⟩;rw [hx] at h2 ⊢;simp only [insL,bump];rw [if_neg (by have h3:u < c:=h2;omega)]
  ·rw [List.drop_eq_nil_of_le (by omega)];rfl
theorem zq2 (nb:Nat) (id:Int) {L:List (Nat×Int×Int)} {t u:Int} {k:Nat} (hk:k < L.length) (h:insL nb id t L=L.take k ++ insL nb id u (L.drop k)) (hle:(L[k]).2.2≤u):insL nb id t L=L.take (k+1) ++ insL nb id (u - (L[k]).2.2) (L.drop (k+1)):=by
 rw [h,List.take_succ_eq_append_getElem hk,List.append_assoc]
 congr 1
 rw [List.drop_eq_getElem_cons hk];obtain⟨⟨b,i,c⟩,hx⟩:∃ x,L[k]=x:=⟨_,rfl⟩;rw [hx] at hle ⊢;simp only [insL];rw [if_pos hle];rfl
def cutL (k:Nat) (L:List (Nat×Int×Int)):List (Nat×Int×Int):=L.take k ++ (match L.drop k with| []=>[]|(_,_,b) :: l=>bump (-b) l)
theorem zyy {L:List (Nat×Int×Int)} {id:Int} {k:Nat} (hk:k < L.length) (hno:∀ j,j < k→∀ h:j < L.length,(L[j]).2.1≠id) (hyes:(L[k]).2.1=id):za1 id (tlOf L)=(tlOf (cutL k L),true):=by
 induction L generalizing k with
 |nil=>simp at hk
 |cons x l ih=>
  obtain⟨b,i,c⟩:=x
  cases k with
  |zero=>
   have hi:i=id:=hyes;simp only [tlOf,List.map_cons,za1,if_pos hi,cutL,List.take_zero,List.drop_zero,List.nil_append]
   cases l with
   |nil=>rfl
   |cons y m=>
    obtain⟨b2,j,d⟩:=y;simp only [List.map_cons,bump,Prod.mk.injEq,List.cons.injEq,and_true,true_and];omega
  |succ k=>
   have hi:i≠id:=hno 0 (by omega) (by simp);have:=ih (k:=k) (by simpa using hk) (fun j hj h=>hno (j+1) (by omega) (by simpa using h)) hyes;simp only [tlOf,List.map_cons,za1,if_neg hi];unfold tlOf at this;rw [this];simp [cutL]
theorem zrr {L:List (Nat×Int×Int)} {id:Int} (hno:∀ j,∀ h:j < L.length,(L[j]).2.1≠id):za1 id (tlOf L)=(tlOf L,false):=by
 induction L with
 |nil=>rfl
 |cons x l ih=>
  obtain⟨b,i,c⟩:=x;have hi:i≠id:=hno 0 (by simp);have:=ih fun j h=>hno (j+1) (by simpa using h);simp only [tlOf,List.map_cons,za1,if_neg hi];unfold tlOf at this;rw [this]
def zhv:List (Nat×Int×Int)→Nat
 | []=>0
 |(_,_,b) :: l=>if b=0 then zhv l+1 else 0
theorem zx5 (L:List (Nat×Int×Int)):popF (tlOf L)=(((L.take (zhv L)).map fun x=>x.2.1),tlOf (L.drop (zhv L))):=by
 induction L with
 |nil=>rfl
 |cons x l ih=>
  obtain⟨b,i,c⟩:=x;simp only [tlOf,List.map_cons,popF,zhv];by_cases h:c=0
  ·rw [if_pos h,if_pos h]
   unfold tlOf at ih;rw [ih];rfl
  ·rw [if_neg h,if_neg h];rfl
theorem zxi {L:List (Nat×Int×Int)} {k:Nat} (hk:k < L.length) (h:zhv L=k+zhv (L.drop k)) (h0:(L[k]).2.2=0):zhv L=(k+1)+zhv (L.drop (k+1)):=by
 rw [h,List.drop_eq_getElem_cons hk];obtain⟨⟨b,i,c⟩,hx⟩:∃ x,L[k]=x:=⟨_,rfl⟩;rw [hx] at h0 ⊢;have h0:c=0:=h0;simp only [zhv,if_pos h0];omega
theorem znf {L:List (Nat×Int×Int)} {k:Nat} (h:zhv L=k+zhv (L.drop k)) (h0:∀ hk:k < L.length,(L[k]).2.2≠0) (_hk:k≤L.length):zhv L=k:=by
 rw [h];by_cases h1:k < L.length
 ·have h2:=h0 h1
  rw [List.drop_eq_getElem_cons h1];obtain⟨⟨b,i,c⟩,hx⟩:∃ x,L[k]=x:=⟨_,rfl⟩;rw [hx] at h2 ⊢;simp only [zhv];rw [if_neg h2];rfl
 ·rw [List.drop_eq_nil_of_le (by omega)];rfl
end Go.Proofs.YtpbmmoneeoijaaaGreatDoor.Dl
