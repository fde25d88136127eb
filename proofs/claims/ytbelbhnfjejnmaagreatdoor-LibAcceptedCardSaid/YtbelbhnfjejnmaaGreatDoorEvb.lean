/- PROVED HERE: a part (Evb) of the tied card of LibAccepted (floodgatelaw25). CONDITIONS: those of the given row and card alone. -/
import Derived.Test.YtbelbhnfjejnmaaGreatDoorEva
namespace Go.Ev
variable {P:Env}
section
variable {o:Oper} {a:Act} {w:World} {j:Inj} {n N nt:Nat} {tm:Tm} {h h':H} {v:AV}
theorem q_mapM {α β:Type} (f:α→Sem β) (g:α→Option β) (hf:∀ x y,g x=some y→(f x).run P w = .ok y w):∀ (l:List α) (r:List β),mapO g l=some r→(l.mapM f).run P w = .ok r w:=by
 intro l
 induction l with
 | nil=>intro r hr; cases hr; simp
 | cons x xs ih =>
  intro r hr
  unfold mapO at hr
  split at hr
  · rename_i y hy
    cases hm:mapO g xs with
    | none=>rw [hm] at hr; cases hr
    | some ys =>
     rw [hm] at hr; cases hr
     simp only [List.mapM_cons,Sem.run_bind,hf x y hy,Result.andThen_ok,ih ys hm,Sem.run_pure]
  · cases hr
theorem q_places {fs:Array Field} {pl:List (Nat × Nat)} (h:mapO (placeOf P) fs.toList=some pl) :
 (fs.mapM (fun f=>do pure (f.offset,← sizeOf f.type)):Sem (Array (Nat × Nat))).run P w = .ok pl.toArray w:=by
 rw [Array.mapM_eq_mapM_toList]
 simp only [Sem.run_map]
 rw [q_mapM _ (placeOf P) (fun f y hy=>?_) fs.toList pl h]
 · rfl
 · unfold placeOf at hy
   cases hs:sizeOf? P f.type with
   | none=>rw [hs] at hy; cases hy
   | some m=>rw [hs] at hy; cases hy; simp [q_sizeOf hs]
theorem mapO_get {α β:Type} (f:α→Option β):∀ (l:List α) (r:List β),mapO f l=some r→r.length=l.length∧∀ (i:Nat) (x:α),l[i]? = some x→∃ y,f x=some y∧r[i]? = some y:=by
 intro l
 induction l with
 | nil=>intro r hr; cases hr; exact ⟨rfl,fun i x hx=>by simp at hx⟩
 | cons x xs ih =>
  intro r hr
  unfold mapO at hr
  split at hr
  · rename_i y hy
    cases hm:mapO f xs with
    | none=>rw [hm] at hr; cases hr
    | some ys =>
     rw [hm] at hr; cases hr
     obtain ⟨h1,h2⟩:=ih ys hm
     refine ⟨by simp [h1],fun i z hz=>?_⟩
     cases i with
     | zero=>simp at hz; subst hz; exact ⟨y,hy,rfl⟩
     | succ i=>obtain ⟨y',h3,h4⟩:=h2 i z (by simpa using hz); exact ⟨y',h3,by simpa using h4⟩
  · cases hr
theorem s_buildS {t:TypeId} {parts:Array (Nat × Operand)} {zs:List AV} {fs:Array Field} {pl:List (Nat × Nat)} {ps:List (Nat × Nat × CA)} (hT:TmR j nt tm a.tmps) (hR:RB P j h.blk n w) (hN:n≤N)
 (hop:o.op = .build t parts) (hz:zeroCellsOf P t=some zs) (ht:P.underlying t=some (.struct fs)) (hpl:mapO (placeOf P) fs.toList=some pl) (hps:mapO (partOf pl) parts.toList=some ps)
 (hr:r_build zs ps tm h = .val v h'):OpOk P o a w j h.blk v h'.blk N:=by
 unfold r_build at hr
 split at hr
 · rename_i cs hf
   cases hr
   obtain ⟨c,h1,h2⟩:=q_zeroCells (w:=w) hz
   obtain ⟨l1,l2⟩:=mapO_get _ _ _ hps
   obtain ⟨cs',h3,h4⟩:=fill_spec hT (pl.toArray[·]?) parts.toList ps zs cs c.cells l1 (fun i p hp=>by
    obtain ⟨y,hy1,hy2⟩:=l2 i p hp
    unfold partOf at hy1
    split at hy1
    · rename_i off m hpm
      cases hy1
      exact ⟨off,m,by simpa using hpm,hy2⟩
    · cases hy1) (h2 j) hf
   refine OpOk.same (cv:=.agg cs') ?_ (.agg _ _ h4) hR hN
   simp only [execOp,hop]
   refine run_v ?_
   have e:(parts.map fun p=>(p.1,a.eval p.2)).toList=parts.toList.map fun p=>(p.1,a.eval p.2):=by simp
   simp only [Instr.build,Sem.run_bind,h1,Result.andThen_ok,q_underlying ht,q_places hpl]
   change (match Instr.fill (pl.toArray[·]?) c.cells (parts.map fun p=>(p.1,a.eval p.2)).toList with | some cells=>_ | _=>_:Sem Value).run P w=_
   rw [e,h3]; rfl
 · cases hr
theorem partAt_get (m:Nat) (l:List (Nat × Operand)):(l.map (partAt m)).length=l.length∧∀ (i:Nat) (p:Nat × Operand),l[i]? = some p→∃ off n,(some (p.1 * m,m):Option (Nat × Nat))=some (off,n)∧(l.map (partAt m))[i]? = some (off,n,cA p.2) :=
 ⟨by simp,fun i p hp=>⟨_,_,rfl,by simp [hp,partAt]⟩⟩
theorem s_buildA {t e:TypeId} {len m:Nat} {parts:Array (Nat × Operand)} {zs:List AV} (hT:TmR j nt tm a.tmps) (hR:RB P j h.blk n w) (hN:n≤N)
 (hop:o.op = .build t parts) (hz:zeroCellsOf P t=some zs) (ht:P.underlying t=some (.array len e)) (hs:sizeOf? P e=some m)
 (hr:r_build zs (parts.toList.map (partAt m)) tm h = .val v h'):OpOk P o a w j h.blk v h'.blk N:=by
 unfold r_build at hr
 split at hr
 · rename_i cs hf
   cases hr
   obtain ⟨c,h1,h2⟩:=q_zeroCells (w:=w) hz
   obtain ⟨l1,l2⟩:=partAt_get m parts.toList
   obtain ⟨cs',h3,h4⟩:=fill_spec hT (fun i=>some (i * m,m)) parts.toList _ zs cs c.cells l1 l2 (h2 j) hf
   refine OpOk.same (cv:=.agg cs') ?_ (.agg _ _ h4) hR hN
   simp only [execOp,hop]
   refine run_v ?_
   have e:(parts.map fun p=>(p.1,a.eval p.2)).toList=parts.toList.map fun p=>(p.1,a.eval p.2):=by simp
   simp only [Instr.build,Sem.run_bind,h1,Result.andThen_ok,q_underlying ht,q_sizeOf hs]
   change (match Instr.fill (fun i=>some (i * m,m)) c.cells (parts.map fun p=>(p.1,a.eval p.2)).toList with | some cells=>_ | _=>_:Sem Value).run P w=_
   rw [e,h3]; rfl
 · cases hr
theorem replL_get (zs:List AV):∀ (m i:Nat),(replL m zs)[i]? = if i < m * zs.length then zs[i % zs.length]? else none:=by
 intro m
 induction m with
 | zero=>intro i; simp [show replL 0 zs = [] from rfl]
 | succ m ih =>
  intro i
  change (zs++replL m zs)[i]? = _
  rw [List.getElem?_append]
  by_cases hi:i < zs.length
  · rw [if_pos hi,if_pos (by rw [Nat.succ_mul]; omega),Nat.mod_eq_of_lt hi]
  · rw [if_neg hi,ih]
    have e:(i - zs.length) % zs.length=i % zs.length:=by rw [Nat.mod_eq_sub_mod (a:=i) (by omega)]
    rw [e]
    have:i - zs.length < m * zs.length↔i < (m+1) * zs.length:=by rw [Nat.succ_mul]; omega
    simp only [this]
theorem replL_length (zs:List AV) (m:Nat):(replL m zs).length=m * zs.length:=by
 induction m with
 | zero=>simp [show replL 0 zs = [] from rfl]
 | succ m ih=>change (zs++replL m zs).length=_; rw [List.length_append,ih,Nat.succ_mul]; omega
theorem zeros_spec {zs:List AV} {z:Array Value} (hz:VRs j zs z.toList) (m:Nat):VRs j (replL m zs) ((Array.range (m * z.size)).map fun i=>z[i % z.size]!).toList:=by
 have hl:=hz.length
 simp at hl
 refine VRs.of_get (by rw [replL_length]; simp [hl]) fun i v hi=>?_
 rw [replL_get] at hi
 split at hi
 · rename_i hlt
   obtain ⟨c,h1,h2⟩:=hz.get hi
   refine ⟨c,?_,h2⟩
   simp only [Array.getElem?_toList] at h1 ⊢
   rw [Array.getElem?_map,Array.getElem?_range]
   rw [←hl] at hlt h1
   simp only [hlt,if_true,Option.map_some]
   rw [getElem!_def,h1]
 · cases hi
end
end Go.Ev
namespace Go.Ev
variable {P:Env}
section
variable {o:Oper} {a:Act} {w:World} {j:Inj} {n N nt:Nat} {tm:Tm} {h h':H} {v:AV}
theorem fillA_length {ev:CA→AV}:∀ {ps:List (Nat × Nat × CA)} {zs r:List AV},fillA ev zs ps=some r→r.length=zs.length:=by
 intro ps
 induction ps with
 | nil=>intro zs r h; unfold fillA at h; cases h; rfl
 | cons p ps ih =>
  intro zs r h
  obtain ⟨off,m,x⟩:=p
  unfold fillA at h
  split at h
  · cases h
  · split at h
    · split at h
      · rename_i hov
        rw [ih h,(overlay_get _ _ _ _ hov).1]
      · cases h
    · cases h
theorem s_bslice {t e:TypeId} {len m:Nat} {parts:Array (Nat × Operand)} {zs:List AV} (hT:TmR j nt tm a.tmps) (hR:RB P j h.blk n w) (hf:j h.next=none) (hN:n≤N) (hN':h'.next.toN≤N)
 (hop:o.op = .buildSlice t len parts) (ht:P.underlying t=some (.slice e)) (hs:sizeOf? P e=some m) (hz:zeroCellsOf P e=some zs) (hc:and (Nat.ble (len * m) 1000000) (Nat.beq zs.length m)=true)
 (hr:r_bslice e m len zs (parts.toList.map (partAt m)) tm h = .val v h'):OpOk P o a w j h.blk v h'.blk N:=by
 obtain ⟨hc1,hc2⟩:=and_true hc
 have hle:len * m≤1000000:=Nat.le_of_ble_eq_true hc1
 have hzl:zs.length=m:=Nat.eq_of_beq_eq_true hc2
 unfold r_bslice at hr
 split at hr
 · rename_i cs hfl
   cases hr
   obtain ⟨c,h1,h2⟩:=q_zeroCells (w:=w) hz
   have hcl:=(h2 j).length
   simp at hcl
   obtain ⟨l1,l2⟩:=partAt_get m parts.toList
   obtain ⟨z,hz1,hz2⟩:∃ z:Array Value,((len * m=0∧z=#[])∨(¬ len * m=0∧z=c.cells)) ∧
    VRs j (replL len zs) ((Array.range (len * m)).map fun i=>z[i % z.size]!).toList:=by
    by_cases h0:len * m=0
    · refine ⟨#[],.inl ⟨h0,rfl⟩,?_⟩
      have:replL len zs = []:=by
       have:=replL_length zs len
       rw [hzl,h0] at this
       exact List.length_eq_zero_iff.1 this
      rw [this,h0]
      simp; exact .nil
    · refine ⟨c.cells,.inr ⟨h0,rfl⟩,?_⟩
      have:=zeros_spec (h2 j) len
      rw [hcl,hzl] at this
      rw [hcl,hzl]; exact this
   obtain ⟨cs',h3,h4⟩:=fill_spec hT (fun i=>some (i * m,m)) parts.toList _ _ cs _ l1 l2 hz2 hfl
   have hlen:cs'.size=len * m:=by
    have e1:=h4.length
    have e2:=fillA_length hfl
    rw [replL_length,hzl] at e2
    simp at e1; omega
   rw [H.blk_add]
   refine OpOk.new (f:=h.next) (base:=0) (csz:=cs'.size) (cv:=.slice (some ⟨w.heap.size,0,none⟩) len len) ?_ hR hf hN (H.add_toN _ _ hN')
    (fun j' _ _ hj=>.sl _ 0 len len true m _ _ len hj (Nat.le_refl _) (fun _=>rfl) (Nat.le_refl _) (.inr ⟨Nat.le_refl _,rfl,by simp [hlen]⟩)) (fun j' hj=>newRow_BlkR' (h4.mono hj) e)
   simp only [execOp,hop]
   refine run_v ?_
   have el:(parts.map fun p=>(p.1,a.eval p.2)).toList=parts.toList.map fun p=>(p.1,a.eval p.2):=by simp
   simp only [Instr.buildSlice,Sem.run_bind,Result.andThen_ok,q_underlying ht,q_sizeOf hs]
   rw [if_neg (by omega)]
   rcases hz1 with ⟨h0,rfl⟩ | ⟨h0,rfl⟩
   · rw [if_pos h0]
     simp only [Sem.run_bind,Sem.run_pure,Result.andThen_ok]
     change (match Instr.fill (fun i=>some (i * m,m)) _ (parts.map fun p=>(p.1,a.eval p.2)).toList with | some cells=>_ | _=>_:Sem Value).run P w=_
     rw [el,h3]; rfl
   · rw [if_neg h0]
     simp only [Sem.run_bind,h1,Sem.run_pure,Result.andThen_ok]
     change (match Instr.fill (fun i=>some (i * m,m)) _ (parts.map fun p=>(p.1,a.eval p.2)).toList with | some cells=>_ | _=>_:Sem Value).run P w=_
     rw [el,h3]; rfl
 · cases hr
theorem q_askRoom (b:Nat):(askRoom b).run P w = .ok () w:=by
 unfold askRoom
 split <;> simp [mark,Sem.run]
theorem bytesOf?_info {t:TypeId} {b:Nat} (h:bytesOf? P t=some b):∃ i,P.info? t=some i∧i.bytes=b:=by
 unfold bytesOf? at h
 cases hi:P.info? t with
 | none=>rw [hi] at h; cases h
 | some i=>rw [hi] at h; cases h; exact ⟨i,rfl,rfl⟩
theorem wrap64_small {x:Int} (h1:0≤x) (h2:x < 9223372036854775808):IntKind.i64.wrap x=x:=by
 apply wrap_of_in <;> simp [IntKind.min,IntKind.max,IntKind.signed,IntKind.bits] <;> omega
theorem s_mksl {t e:TypeId} {m b:Nat} {x y:Operand} {zs:List AV} (hT:TmR j nt tm a.tmps) (hR:RB P j h.blk n w) (hf:j h.next=none) (hN:n≤N) (hN':h'.next.toN≤N)
 (hop:o.op = .makeSlice t x y) (ht:P.underlying t=some (.slice e)) (hs:sizeOf? P e=some m) (hb:bytesOf? P e=some b) (hz:zeroCellsOf P e=some zs) (hc:Nat.beq zs.length m=true)
 (hr:r_mksl e m b zs (cA x) (cA y) tm h = .val v h'):OpOk P o a w j h.blk v h'.blk N:=by
 have hzl:zs.length=m:=Nat.eq_of_beq_eq_true hc
 unfold r_mksl at hr
 have hx:=evA hT x
 have hy:=evA hT y
 split at hr
 · rename_i k1 li k2 ci e1 e2
   rw [e1] at hx; rw [e2] at hy
   split at hr
   · rename_i c hci
     obtain ⟨rfl,hcl⟩:=idx_some hci
     split at hr
     · rename_i l hli
       obtain ⟨rfl,hll⟩:=idx_some hli
       split at hr
       · rename_i hbb
         have hbb':c * b≤1000000000:=Nat.le_of_ble_eq_true hbb
         cases hr
         obtain ⟨z,h1,h2⟩:=q_zeroCells (w:=w) hz
         have hzl':=(h2 j).length
         simp at hzl'
         obtain ⟨i,hi1,hi2⟩:=bytesOf?_info hb
         obtain ⟨zz,hz1,hz2⟩:∃ zz:Array Value,((c * m=0∧zz=#[])∨(¬ c * m=0∧zz=z.cells)) ∧
          VRs j (replL c zs) ((Array.range (c * m)).map fun i=>zz[i % zz.size]!).toList:=by
          by_cases h0:c * m=0
          · refine ⟨#[],.inl ⟨h0,rfl⟩,?_⟩
            have:replL c zs = []:=by
             have:=replL_length zs c
             rw [hzl,h0] at this
             exact List.length_eq_zero_iff.1 this
            rw [this,h0]
            simp; exact .nil
          · refine ⟨z.cells,.inr ⟨h0,rfl⟩,?_⟩
            have:=zeros_spec (h2 j) c
            rw [hzl',hzl] at this
            rw [hzl',hzl]; exact this
         rw [H.blk_add]
         refine OpOk.new (f:=h.next) (base:=0) (csz:=((Array.range (c * m)).map fun i=>zz[i % zz.size]!).size) (cv:=.slice (some ⟨w.heap.size,0,none⟩) l c) ?_ hR hf hN (H.add_toN _ _ hN')
          (fun j' _ _ hj=>.sl _ 0 l c true m _ _ c hj (Nat.le_refl _) (fun _=>rfl) (by omega) (.inr ⟨Nat.le_refl _,rfl,by simp⟩)) (fun j' hj=>newRow_BlkR' (hz2.mono hj) e)
         simp only [execOp,hop]
         refine run_v ?_
         generalize a.eval x=p at hx ⊢
         generalize a.eval y=q at hy ⊢
         cases hx; cases hy
         have w1:=wrap64_small (x:=(l:Int)) (by omega) (by omega)
         have w2:=wrap64_small (x:=(c:Int)) (by omega) (by omega)
         have t0:(i.bytes:Int) * (c:Int)=((c * b:Nat):Int):=by rw [hi2,Int.natCast_mul]; exact Int.mul_comm _ _
         have t1:¬ ((i.bytes:Int) * (c:Int) > 2 ^ 48):=by rw [t0]; omega
         simp only [Instr.makeSlice,Sem.run_bind,Result.andThen_ok,q_underlying ht,asInt,asIntOf,Sem.run_pure,q_typeInfo hi1,w1,w2]
         have hcond:(decide ((c:Int) < 0) || decide ((i.bytes:Int) * (c:Int) > 2 ^ 48) || decide ((l:Int) < 0) || decide ((l:Int) > (c:Int)))=false:=by
          rw [t0]
          simp
          omega
         rw [hcond]
         simp only [Bool.false_eq_true,if_false,Sem.run_bind,q_askRoom,q_sizeOf hs,Int.toNat_natCast,Result.andThen_ok]
         rcases hz1 with ⟨h0,rfl⟩ | ⟨h0,rfl⟩
         · rw [if_pos h0]
           simp only [Sem.run_bind,Sem.run_pure,Result.andThen_ok]
           rfl
         · rw [if_neg h0]
           simp only [Sem.run_bind,h1,Sem.run_pure,Result.andThen_ok]
           rfl
       · cases hr
     · cases hr
   · cases hr
 · cases hr
theorem s_fa {t:TypeId} {x:Operand} {i:Nat} {fs:Array Field} {f:Field} {m:Nat} (hT:TmR j nt tm a.tmps) (hR:RB P j h.blk n w) (hN:n≤N) (hop:o.op = .fieldAddr t x i) (ht:P.underlying t=some (.struct fs)) (hfs:fs[i]? = some f)
 (hs:sizeOf? P f.type=some (m+1)) (hr:r_fa f.offset (cA x) tm h = .val v h'):OpOk P o a w j h.blk v h'.blk N:=by
 unfold r_fa at hr
 have hx:=evA hT x
 split at hr
 · rename_i g k e
   rw [e] at hx
   cases hr
   generalize hp:a.eval x=p at hx
   cases hx with
   | ptr _ _ l hj hb =>
   refine OpOk.same (cv:=.pointer (some ⟨l.blk,k+f.offset - l.base,none⟩)) ?_ (.ptr _ _ l hj (by simp; omega)) hR hN
   simp only [execOp,hop]
   refine run_v ?_
   rw [hp]
   simp only [Instr.fieldAt,Sem.run_bind,q_underlying ht,Result.andThen_ok,hfs,q_sureAddr,fieldPlace,q_sizeOf hs]
   rw [if_neg (by omega)]
   simp only [Sem.run_pure,Result.andThen_ok,Addr.add_none]
   rw [show k - l.base+f.offset=k+f.offset - l.base from by omega]
 · rename_i us e
   rw [e] at hx
   split at hr
   · rename_i hb
     cases hr
     have hb:=Nat.le_of_ble_eq_true hb
     generalize hp:a.eval x=p at hx
     cases hx with
     | lp _ b k cs te fz hfr hk hv =>
     have h3:=hv.drop f.offset
     have h4:(cs.extract k (k+us.length)).toList.drop f.offset=(cs.extract (k+f.offset) (k+f.offset+(us.drop f.offset).length)).toList:=by
      simp only [Array.toList_extract,List.extract_eq_take_drop,List.length_drop,List.drop_take,List.drop_drop]
      congr 1
      omega
     rw [h4] at h3
     refine OpOk.same (cv:=.pointer (some ⟨b,k+f.offset,none⟩)) ?_ (.lp _ b (k+f.offset) cs te fz hfr (by simp; omega) h3) hR hN
     simp only [execOp,hop]
     refine run_v ?_
     rw [hp]
     simp only [Instr.fieldAt,Sem.run_bind,q_underlying ht,Result.andThen_ok,hfs,q_sureAddr,fieldPlace,q_sizeOf hs]
     rw [if_neg (by omega)]
     simp only [Sem.run_pure,Result.andThen_ok,Addr.add_none]
   · cases hr
 · cases hr
theorem s_fld {t:TypeId} {x:Operand} {i:Nat} {fs:Array Field} {f:Field} {m:Nat} {g:Bool} (hT:TmR j nt tm a.tmps) (hR:RB P j h.blk n w) (hN:n≤N) (hop:o.op = .field t x i) (ht:P.underlying t=some (.struct fs)) (hfs:fs[i]? = some f)
 (hg:isAgg? P f.type=some g) (hs:sizeOf? P f.type=some m) (hr:r_fld f.offset m g (cA x) tm h = .val v h'):OpOk P o a w j h.blk v h'.blk N:=by
 unfold r_fld at hr
 have hx:=evA hT x
 split at hr
 · rename_i cs e
   rw [e] at hx
   cases hv:partA cs f.offset m g with
   | none=>rw [hv] at hr; cases hr
   | some u =>
    rw [hv] at hr; cases hr
    generalize hp:a.eval x=p at hx
    cases hx with
    | agg _ us hus =>
    obtain ⟨c,h1,h2⟩:=partA_spec (w:=w) hs hg hus hv
    refine OpOk.same (cv:=c) ?_ h2 hR hN
    simp only [execOp,hop]
    refine run_v ?_
    rw [hp]
    simp [Instr.field,q_underlying ht,hfs,asAgg,h1]
 · cases hr
theorem s_ia {t e:TypeId} {x y:Operand} {m:Nat} (hT:TmR j nt tm a.tmps) (hR:RB P j h.blk n w) (hN:n≤N) (hop:o.op = .indexAddr t x y) (ht:P.underlying t=some (.slice e)) (hs:sizeOf? P e=some m)
 (hr:r_ia m (cA x) (cA y) tm h = .val v h'):OpOk P o a w j h.blk v h'.blk N:=by
 unfold r_ia at hr
 have hx:=evA hT x
 have hy:=evA hT y
 split at hr
 · rename_i f k len cap ex sz kk i e1 e2
   rw [e1] at hx; rw [e2] at hy
   split at hr
   · rename_i hsz
     have hsz':=Nat.eq_of_beq_eq_true hsz
     subst hsz'
     split at hr
     · rename_i i' hi
       obtain ⟨rfl,hi'⟩:=idx_some hi
       cases hr
       generalize hp:a.eval x=p at hx
       generalize hq:a.eval y=q at hy
       cases hy
       cases hx with
       | sl _ _ _ _ _ _ l ad capc hj hcap hex hlen hloc =>
       have hloc':=hloc.resolve_left (by omega)
       obtain ⟨hb,rfl,_⟩:=hloc'
       refine OpOk.same (cv:=.pointer (some ⟨l.blk,k+i' * m - l.base,none⟩)) ?_ (.ptr _ _ l hj (by simp; omega)) hR hN
       simp only [execOp,hop]
       refine run_v ?_
       rw [hp,hq]
       simp only [Instr.indexAt,asIntOf,Sem.run_bind,Sem.run_pure,Result.andThen_ok,q_underlying ht]
       rw [if_pos ⟨by omega,by omega⟩]
       simp only [Sem.run_bind,q_sizeOf hs,Result.andThen_ok,Sem.run_pure,Int.toNat_natCast,Addr.add_none]
       rw [show k - l.base+i' * m=k+i' * m - l.base from by omega]
     · cases hr
   · cases hr
 · rename_i cap xs kk i e1 e2
   rw [e1] at hx; rw [e2] at hy
   split at hr
   · rename_i i' hi
     obtain ⟨rfl,hi'⟩:=idx_some hi
     split at hr
     · rename_i y0 hy0
       split at hr
       · rename_i hsz0
         have hsz0:=Nat.eq_of_beq_eq_true hsz0
         cases hr
         generalize hp:a.eval x=p at hx
         generalize hq:a.eval y=q at hy
         cases hy
         cases hx with
         | lstE=>simp at hy0
         | lst _ _ b k capc sz cs te fz hfr hcap hex hsz hk hv =>
         have hss:sz=m:=(hsz y0 (List.mem_of_getElem? hy0)).symm.trans hsz0
         subst hss
         have hmul:i' * sz+sz≤xs.length * sz:=by rw [←Nat.succ_mul]; exact Nat.mul_le_mul_right _ hi'
         have h3:VRs j y0.cells (cs.extract (k+i' * sz) (k+i' * sz+y0.cells.length)).toList:=by
          have h4:=(hv.drop (i' * sz)).take sz
          rw [cellsOf_at hsz hy0] at h4
          have h5:((cs.extract k (k+xs.length * sz)).toList.drop (i' * sz)).take sz=(cs.extract (k+i' * sz) (k+i' * sz+y0.cells.length)).toList:=by
           simp only [Array.toList_extract,List.extract_eq_take_drop,List.drop_take,List.drop_drop,List.take_take,hsz0]
           congr 1
           omega
          rw [h5] at h4; exact h4
         refine OpOk.same (cv:=.pointer (some ⟨b,k+i' * sz,none⟩)) ?_ (.lp _ b _ cs te fz hfr (by rw [hsz0]; omega) h3) hR hN
         simp only [execOp,hop]
         refine run_v ?_
         rw [hp,hq]
         simp only [Instr.indexAt,asIntOf,Sem.run_bind,Sem.run_pure,Result.andThen_ok,q_underlying ht]
         rw [if_pos ⟨by omega,by omega⟩]
         simp only [Sem.run_bind,q_sizeOf hs,Result.andThen_ok,Sem.run_pure,Int.toNat_natCast,Addr.add_none]
       · cases hr
     · cases hr
   · cases hr
 · cases hr
theorem s_iarr {t e:TypeId} {x y:Operand} {len m:Nat} (hT:TmR j nt tm a.tmps) (hR:RB P j h.blk n w) (hN:n≤N) (hop:o.op = .indexAddr t x y) (ht:P.underlying t=some (.array len e)) (hs:sizeOf? P e=some m)
 (hr:r_iarr len m (cA x) (cA y) tm h = .val v h'):OpOk P o a w j h.blk v h'.blk N:=by
 unfold r_iarr at hr
 have hx:=evA hT x
 have hy:=evA hT y
 split at hr
 · rename_i f k kk i e1 e2
   rw [e1] at hx; rw [e2] at hy
   split at hr
   · rename_i i' hi
     obtain ⟨rfl,hi'⟩:=idx_some hi
     cases hr
     generalize hp:a.eval x=p at hx
     generalize hq:a.eval y=q at hy
     cases hy
     cases hx with
     | ptr _ _ l hj hb =>
     refine OpOk.same (cv:=.pointer (some ⟨l.blk,k+i' * m - l.base,none⟩)) ?_ (.ptr _ _ l hj (by simp; omega)) hR hN
     simp only [execOp,hop]
     refine run_v ?_
     rw [hp,hq]
     simp only [Instr.indexAt,asIntOf,Sem.run_bind,Sem.run_pure,Result.andThen_ok,q_underlying ht,q_sureAddr]
     rw [if_pos ⟨by omega,by omega⟩]
     simp only [Sem.run_bind,q_sizeOf hs,Result.andThen_ok,Sem.run_pure,Int.toNat_natCast,Addr.add_none]
     rw [show k - l.base+i' * m=k+i' * m - l.base from by omega]
   · cases hr
 · cases hr
theorem s_ixa {t e:TypeId} {x y:Operand} {len m:Nat} {g:Bool} (hT:TmR j nt tm a.tmps) (hR:RB P j h.blk n w) (hN:n≤N) (hop:o.op = .index t x y) (ht:P.underlying t=some (.array len e)) (hg:isAgg? P e=some g) (hs:sizeOf? P e=some m)
 (hr:r_ixa len m g (cA x) (cA y) tm h = .val v h'):OpOk P o a w j h.blk v h'.blk N:=by
 unfold r_ixa at hr
 have hx:=evA hT x
 have hy:=evA hT y
 split at hr
 · rename_i cs kk i e1 e2
   rw [e1] at hx; rw [e2] at hy
   split at hr
   · rename_i i' hi
     obtain ⟨rfl,hi'⟩:=idx_some hi
     cases hv:partA cs (Nat.mul i' m) m g with
     | none=>rw [hv] at hr; cases hr
     | some u =>
      rw [hv] at hr; cases hr
      generalize hp:a.eval x=p at hx
      generalize hq:a.eval y=q at hy
      cases hy
      cases hx with
      | agg _ us hus =>
      obtain ⟨c,h1,h2⟩:=partA_spec (w:=w) hs hg hus hv
      refine OpOk.same (cv:=c) ?_ h2 hR hN
      simp only [execOp,hop]
      refine run_v ?_
      rw [hp,hq]
      simp only [Instr.index,asIntOf,Sem.run_bind,Sem.run_pure,Result.andThen_ok,q_underlying ht]
      rw [if_pos ⟨by omega,by omega⟩]
      simp only [Sem.run_bind,q_sizeOf hs,Result.andThen_ok,Int.toNat_natCast]
      exact h1
   · cases hr
 · cases hr
theorem s_ixs {t:TypeId} {x y:Operand} (hT:TmR j nt tm a.tmps) (hR:RB P j h.blk n w) (hN:n≤N) (hop:o.op = .index t x y) (ht:P.underlying t=some .string)
 (hr:r_ixs (cA x) (cA y) tm h = .val v h'):OpOk P o a w j h.blk v h'.blk N:=by
 unfold r_ixs at hr
 have hx:=evA hT x
 have hy:=evA hT y
 split at hr
 · rename_i s kk i e1 e2
   rw [e1] at hx; rw [e2] at hy
   split at hr
   · rename_i i'
     split at hr
     · rename_i b hb
       cases hr
       generalize hp:a.eval x=p at hx
       generalize hq:a.eval y=q at hy
       cases hy
       cases hx with
       | str bs =>
       refine OpOk.same (cv:=.int .u8 (b:Int)) ?_ (.int _ _) hR hN
       simp only [execOp,hop]
       refine run_v ?_
       rw [hp,hq]
       have hb2:∃ u,bs[i']? = some u∧u.toNat=b:=by
        unfold bytesOf at hb
        rw [List.getElem?_map] at hb
        cases hg:bs.data.toList[i']? with
        | none=>rw [hg] at hb; cases hb
        | some u =>
         rw [hg] at hb; cases hb
         refine ⟨u,?_,rfl⟩
         have hlt:=(List.getElem?_eq_some_iff.1 hg)
         obtain ⟨hlt,he⟩:=hlt
         have:i' < bs.size:=by simpa using hlt
         rw [getElem?_pos bs i' this]
         congr 1
       obtain ⟨u,hu1,hu2⟩:=hb2
       simp only [Instr.index,asIntOf,Sem.run_bind,Sem.run_pure,Result.andThen_ok,q_underlying ht]
       rw [if_pos (show (0:Int)≤Int.ofNat i' from Int.natCast_nonneg i')]
       have:(Int.ofNat i').toNat=i':=rfl
       rw [this,hu1]
       simp [hu2]
     · cases hr
   · cases hr
 · cases hr
theorem s_ext {x:Operand} {i:Nat} (hT:TmR j nt tm a.tmps) (hR:RB P j h.blk n w) (hN:n≤N) (hop:o.op = .extract x i) (hr:r_ext (cA x) i tm h = .val v h'):OpOk P o a w j h.blk v h'.blk N:=by
 unfold r_ext at hr
 have hx:=evA hT x
 split at hr
 · rename_i vs e
   rw [e] at hx
   cases hv:vs[i]? with
   | none=>rw [hv] at hr; cases hr
   | some u =>
    rw [hv] at hr; cases hr
    generalize hp:a.eval x=p at hx
    cases hx with
    | tup _ us hus =>
    obtain ⟨c,h1,h2⟩:=hus.get hv
    refine OpOk.same (cv:=c) ?_ h2 hR hN
    simp only [execOp,hop]
    refine run_v ?_
    rw [hp]
    have:us[i]? = some c:=by simpa using h1
    simp [Instr.extract,this]
 · cases hr
end
end Go.Ev
namespace Go.Ev
variable {P:Env}
section
variable {o:Oper} {a:Act} {w:World} {j:Inj} {n N nt:Nat} {tm:Tm} {h h':H} {v:AV}
theorem s_cvi {s d:TypeId} {x:Operand} {ks kd:IntKind} (hT:TmR j nt tm a.tmps) (hR:RB P j h.blk n w) (hN:n≤N) (hop:o.op = .convert s d x) (hs:P.underlying s=some (.int ks)) (hd:P.underlying d=some (.int kd))
 (hr:r_cvi kd (cA x) tm h = .val v h'):OpOk P o a w j h.blk v h'.blk N:=by
 unfold r_cvi at hr
 have hx:=evA hT x
 split at hr
 · rename_i e
   rw [e] at hx
   cases hr
   generalize hp:a.eval x=p at hx
   cases hx
   refine OpOk.same ?_ (.int _ _) hR hN
   simp only [execOp,hop]
   refine run_v ?_
   rw [hp,wr_eq]
   simp [convert,q_underlying hs,q_underlying hd,Conv.intToInt]
 · cases hr
theorem s_cvs {s d:TypeId} {x:Operand} (hT:TmR j nt tm a.tmps) (hR:RB P j h.blk n w) (hN:n≤N) (hop:o.op = .convert s d x) (hs:P.underlying s=some .string) (hd:P.underlying d=some .string)
 (hr:r_cvs (cA x) tm h = .val v h'):OpOk P o a w j h.blk v h'.blk N:=by
 unfold r_cvs at hr
 have hx:=evA hT x
 split at hr
 · rename_i e
   rw [e] at hx
   cases hr
   generalize hp:a.eval x=p at hx
   cases hx
   refine OpOk.same ?_ (.str _) hR hN
   simp only [execOp,hop]
   refine run_v ?_
   rw [hp]
   simp [convert,q_underlying hs,q_underlying hd]
 · cases hr
theorem bytesA_spec:∀ {vs:List AV} {bs:List Nat},bytesA vs=some bs→∀ {cs:List Value},VRs j vs cs→∃ l:List UInt8,bs=l.map (·.toNat)∧cs=(l.map fun b=>((b.toNat:Nat):Int)).map (Value.int .u8):=by
 intro vs
 induction vs with
 | nil=>intro bs hb cs hv; unfold bytesA at hb; cases hb; cases hv; exact ⟨[],rfl,rfl⟩
 | cons x xs ih =>
  intro bs hb cs hv
  unfold bytesA at hb
  split at hb
  · rename_i e; cases e
  · rename_i k rest e
    cases e
    split at hb
    · rename_i b hi
      obtain ⟨rfl,hlt⟩:=idx_some hi
      split at hb
      · rename_i bs' hr
        cases hb
        cases hv with
        | cons _ _ c cs h hs =>
        obtain ⟨l,h1,h2⟩:=ih hr hs
        cases h
        refine ⟨UInt8.ofNat b :: l,?_,?_⟩
        · simp [h1]; omega
        · simp [h2]; omega
      · cases hb
    · cases hb
  · cases hb
theorem s_cvbs {s d e:TypeId} {x:Operand} (hT:TmR j nt tm a.tmps) (hR:RB P j h.blk n w) (hN:n≤N) (hop:o.op = .convert s d x) (hs:P.underlying s=some (.slice e)) (he:P.underlying e=some (.int .u8)) (hd:P.underlying d=some .string)
 (hr:r_cvbs (cA x) tm h = .val v h'):OpOk P o a w j h.blk v h'.blk N:=by
 unfold r_cvbs at hr
 have hx:=evA hT x
 split at hr
 · rename_i e1
   rw [e1] at hx
   cases hr
   generalize hp:a.eval x=p at hx
   cases hx
   refine OpOk.same (cv:=.string .empty) ?_ (.str .empty) hR hN
   simp only [execOp,hop]
   refine run_v ?_
   rw [hp]
   simp [convert,q_underlying hs,q_underlying he,q_underlying hd,Conv.bytesToString]
 · rename_i f k len cap ex sz e1
   rw [e1] at hx
   split at hr
   · rename_i hsz
     have hsz':=Nat.eq_of_beq_eq_true hsz
     subst hsz'
     split at hr
     · rename_i cs hl
       split at hr
       · rename_i bs hb
         cases hr
         generalize hp:a.eval x=p at hx
         cases hx with
         | sl _ _ _ _ _ _ l ad capc hj hcap hex hlen hloc =>
         obtain ⟨hb1,hb2,cc,hrun,hvs⟩:=ldn_spec hR hl hj
         obtain ⟨ul,h1,h2⟩:=bytesA_spec hb hvs
         have hrun':(loadCells ad len).run P w = .ok ((ul.map fun b=>((b.toNat:Nat):Int)).map (Value.int .u8)).toArray w:=by
          rcases hloc with h0 | ⟨_,rfl,_⟩
          · have hl0:len=0:=by omega
            subst hl0
            have:cs = []:=List.length_eq_zero_iff.1 hb2
            subst this
            have hul:ul = []:=by
             cases ul with
             | nil=>rfl
             | cons u us=>simp [bytesA] at hb; subst hb; simp at h1
            subst hul
            rfl
          · rw [hrun]
            congr 1
            apply Array.ext'
            rw [h2]
         refine OpOk.same (cv:=.string ⟨ul.toArray⟩) ?_ ?_ hR hN
         · simp only [execOp,hop]
           refine run_v ?_
           rw [hp]
           have:=run_bytesToString w ad len capc _ hrun'
           rw [foldl_push_byteCells] at this
           simp only [convert,Sem.run_bind,q_underlying hs,q_underlying hd,q_underlying he,Result.andThen_ok]
           rw [this]
           have he0:ByteArray.empty.data=#[]:=rfl
           rw [he0]; simp
         · have:bs=bytesOf ⟨ul.toArray⟩:=by simp [bytesOf,h1]
           rw [this]; exact .str _
       · cases hr
     · cases hr
   · cases hr
 · cases hr
theorem u8s_VRs (l:List UInt8):VRs j (u8s (l.map (·.toNat))) (l.map fun b=>Value.int .u8 ((b.toNat:Nat):Int)):=by
 induction l with
 | nil=>exact .nil
 | cons b l ih=>exact .cons _ _ _ _ (.int _ _) ih
theorem s_cvsb {s d e:TypeId} {x:Operand} (hT:TmR j nt tm a.tmps) (hR:RB P j h.blk n w) (hf:j h.next=none) (hN:n≤N) (hN':h'.next.toN≤N) (hop:o.op = .convert s d x) (hs:P.underlying s=some .string)
 (hd:P.underlying d=some (.slice e)) (he:P.underlying e=some (.int .u8)) (hr:r_cvsb e (cA x) tm h = .val v h'):OpOk P o a w j h.blk v h'.blk N:=by
 unfold r_cvsb at hr
 have hx:=evA hT x
 split at hr
 · rename_i l e1
   rw [e1] at hx
   cases hr
   generalize hp:a.eval x=p at hx
   cases hx with
   | str bs =>
   have hrun:=run_bytes_of_string w s d e bs hs hd he
   have hg:bs.size≤grownCap w bs.size 0 e:=by simp [grownCap,Question.cut]
   generalize grownCap w bs.size 0 e=g at hrun hg
   have hrow:bytesRow bs g=((bs.data.toList.map fun (b:UInt8)=>Value.int .u8 ((b.toNat:Nat):Int))++List.replicate (g - bs.size) (Value.int .u8 0)).toArray:=by
    apply Array.ext'
    simp [bytesRow]
   have hsz:(bytesRow bs g).size=g:=by
    rw [hrow]
    have:bs.data.size=bs.size:=rfl
    simp; omega
   rw [H.blk_add]
   have hv:=u8s_VRs (j:=j) bs.data.toList
   refine OpOk.newD (ob:=.cells (bytesRow bs g) e ((bytesRow bs g).size,(bytesRow bs g).size+1)) (d:=w.drawn+1) (f:=h.next) (base:=0) (csz:=g) (cv:=.slice (some ⟨w.heap.size,0,none⟩) bs.size g) ?_ hR hf hN (H.add_toN _ _ hN')
    (fun j' _ hj=>by rw [bytesOf_length]; exact .sl _ 0 _ _ false 1 _ _ g hj hg (fun e=>by cases e) hg (.inr ⟨Nat.le_refl _,rfl,by simp⟩)) (fun j' hj=>?_)
   · simp only [execOp,hop]
     refine run_v ?_
     rw [hp,hrun]
     rfl
   · rw [newCells,BlkR.cells_iff]
     refine ⟨_,e,_,heap_push_new _ _,.inr (Nat.le_refl _),?_⟩
     rw [hrow]
     have hl:(u8s (List.map (fun (x:UInt8)=>x.toNat) bs.data.toList)).length=(List.map (fun (b:UInt8)=>Value.int IntKind.u8 ((b.toNat:Nat):Int)) bs.data.toList).length:=hv.length.symm
     have:=newCells_at j' _ _ (hv.mono hj) w.heap.size g (List.replicate (g - bs.size) (Value.int .u8 0)) (by
      have:bs.data.size=bs.size:=rfl
      simp; omega)
     exact ⟨this,rfl⟩
 · cases hr
end
end Go.Ev
namespace Go.Ev
variable {P:Env}
section
variable {o:Oper} {a:Act} {w:World} {j:Inj} {n N nt:Nat} {tm:Tm} {h h':H} {v:AV}
theorem bound_spec (hT:TmR j nt tm a.tmps) {y d m:Nat} {x:Option Operand} (h:boundA tm y d (optCA x)=some m) :
 (x=none∧m=d)∨(∃ z,x=some z∧m≤y∧∃ k,a.eval z = .int k (m:Int)):=by
 unfold boundA at h
 cases x with
 | none=>cases h; exact .inl ⟨rfl,rfl⟩
 | some z =>
  change (match (cA z).ev tm with | .int _ i=>idx (Nat.succ y) i | _=>none)=some m at h
  have hz:=evA hT z
  split at h
  · rename_i k i e
    rw [e] at hz
    obtain ⟨rfl,hlt⟩:=idx_some h
    generalize hp:a.eval z=p at hz
    cases hz
    exact .inr ⟨z,rfl,by omega,_,hp⟩
  · cases h
theorem q_sliceBound {k:IntKind} {m y:Nat} (hm:m≤y) (c:BoundsCode):(Instr.sliceBound (.int k (m:Int)) y c).run P w = .ok m w:=by
 simp only [Instr.sliceBound,asIntOf,Sem.run_bind,Sem.run_pure,Result.andThen_ok]
 rw [if_pos ⟨by omega,by omega⟩]; simp
theorem q_sliceBounds (hT:TmR j nt tm a.tmps) {isS:Bool} {len cap capc:Nat} (hcap:cap≤capc) {lo hi mx:Option Operand} (hok:slOk hi mx=true) {m b l:Nat} (h1:boundA tm cap cap (optCA mx)=some m)
 (h2:boundA tm m len (optCA hi)=some b) (h3:boundA tm b 0 (optCA lo)=some l) (hlen:len≤cap) :
 ∃ m',(Instr.sliceBounds isS len capc (lo.map a.eval) (hi.map a.eval) (mx.map a.eval)).run P w = .ok (l,b,m') w∧m≤m'∧m'≤capc∧(mx.isSome=true→m'=m)∧(mx=none→m'=capc∧m=cap)∧l≤b∧b≤m:=by
 have hm:=bound_spec hT h1
 have hb:=bound_spec hT h2
 have hl:=bound_spec hT h3
 have hlb:l≤b:=by rcases hl with ⟨_,rfl⟩ | ⟨_,_,h,_⟩ <;> omega
 have hmc:m≤cap:=by rcases hm with ⟨_,rfl⟩ | ⟨_,_,h,_⟩ <;> omega
 have hlow:∀ (c:BoundsCode) (m':Nat),(match lo.map a.eval with | some v=>(do let l ← Instr.sliceBound v b c; pure (l,b,m')) | none=>(do let l ← pure 0; pure (l,b,m')):Sem (Nat × Nat × Nat)).run P w = .ok (l,b,m') w:=by
  intro c m'
  rcases hl with ⟨rfl,rfl⟩ | ⟨z,rfl,h,k,hz⟩
  · rfl
  · simp only [Option.map_some,hz,Sem.run_bind,q_sliceBound h,Result.andThen_ok,Sem.run_pure]
 rcases hm with ⟨rfl,rfl⟩ | ⟨zm,rfl,hm1,km,hzm⟩
 ·
  have hbm:b≤m:=by rcases hb with ⟨_,rfl⟩ | ⟨_,_,h,_⟩ <;> omega
  refine ⟨capc,?_,hcap,Nat.le_refl _,by simp,fun _=>⟨rfl,rfl⟩,hlb,hbm⟩
  rcases hb with ⟨rfl,rfl⟩ | ⟨zb,rfl,hb1,kb,hzb⟩
  · simp only [Instr.sliceBounds,Option.map_none,Sem.run_bind,Sem.run_pure,Result.andThen_ok]
    exact hlow _ _
  · simp only [Instr.sliceBounds,Option.map_none,Option.map_some,Sem.run_bind,Sem.run_pure,Result.andThen_ok,hzb]
    rw [q_sliceBound (by omega)]
    simp only [Result.andThen_ok]
    exact hlow _ _
 · have hbm:b≤m:=by
    rcases hb with ⟨rfl,rfl⟩ | ⟨_,_,h,_⟩
    · simp [slOk] at hok
    · exact h
   refine ⟨m,?_,Nat.le_refl _,by omega,fun _=>rfl,(by intro e; cases e),hlb,hbm⟩
   rcases hb with ⟨rfl,rfl⟩ | ⟨zb,rfl,hb1,kb,hzb⟩
   · simp [slOk] at hok
   · simp only [Instr.sliceBounds,Option.map_some,Sem.run_bind,hzm,hzb]
     rw [q_sliceBound (by omega)]
     simp only [Result.andThen_ok]
     rw [q_sliceBound hb1]
     simp only [Result.andThen_ok]
     exact hlow _ _
theorem bytesOf_extract (s:ByteArray) (a b:Nat):bytesOf (s.extract a b)=((bytesOf s).take b).drop a:=by
 unfold bytesOf
 rw [ByteArray.data_extract,Array.toList_extract,List.extract_eq_take_drop]
 rw [←List.map_take,← List.map_drop,List.drop_take]
theorem s_slstr {t:TypeId} {x:Operand} {lo hi:Option Operand} (hT:TmR j nt tm a.tmps) (hR:RB P j h.blk n w) (hN:n≤N) (hop:o.op = .slice t x lo hi none) (ht:P.underlying t=some .string)
 (hr:r_slstr (cA x) (optCA lo) (optCA hi) tm h = .val v h'):OpOk P o a w j h.blk v h'.blk N:=by
 unfold r_slstr at hr
 have hx:=evA hT x
 split at hr
 · rename_i s e
   rw [e] at hx
   split at hr
   · rename_i b h2
     split at hr
     · rename_i l h3
       cases hr
       generalize hp:a.eval x=p at hx
       cases hx with
       | str bs =>
       have h1:boundA tm (bytesOf bs).length (bytesOf bs).length (optCA none)=some (bytesOf bs).length:=rfl
       obtain ⟨m',hrun,_⟩:=q_sliceBounds (P:=P) (w:=w) (isS:=false) hT (Nat.le_refl _) (lo:=lo) (hi:=hi) (mx:=none) (by cases hi <;> rfl) h1 h2 h3 (Nat.le_refl _)
       rw [←bytesOf_extract]
       refine OpOk.same (cv:=.string (bs.extract l b)) ?_ (.str _) hR hN
       simp only [execOp,hop]
       refine run_v ?_
       rw [hp]
       rw [bytesOf_length] at hrun
       have:(Instr.slice t (.string bs) (lo.map a.eval) (hi.map a.eval) (none:Option Value)).run P w = .ok (.string (bs.extract l b)) w:=by
        simp only [Instr.slice,Sem.run_bind,q_underlying ht,Result.andThen_ok]
        simp only [Option.map_none] at hrun
        simp [hrun]
       simp only [Instr.sliceAt,Sem.run_bind,q_underlying ht,Result.andThen_ok,Option.map_none]
       exact this
     · cases hr
   · cases hr
 · cases hr
theorem sl_part {f:Pos} {k cap:Nat} {ex:Bool} {sz:Nat} {l:Loc} {ad:Addr} {capc m m' b lo:Nat} {mxs:Bool} (hj:j f=some l) (hex:ex=true→capc=cap)
 (hloc:capc=0∨(l.base≤k∧ad=⟨l.blk,k - l.base,none⟩∧(k - l.base)+capc * sz≤l.csz)) (h1:m≤m') (h2:m'≤capc) (h3:mxs=true→m'=m) (h4:mxs=false→m'=capc∧m=cap) (h5:lo≤b) (h6:b≤m) :
 VR j (.sl f (k+lo * sz) (b - lo) (m - lo) (or ex mxs) sz) (.slice (some (if m'=lo then ad else ad.add (lo * sz))) (b - lo) (m' - lo)):=by
 refine .sl _ _ _ _ _ _ l _ _ hj (by omega) (fun e=>?_) (by omega) ?_
 · cases mxs with
   | true=>rw [h3 rfl]
   | false =>
    have:=h4 rfl
    have:=hex (by simpa using e)
    omega
 · by_cases he:m'=lo
   · exact .inl (by omega)
   · rw [if_neg he]
     rcases hloc with h0 | ⟨g1,rfl,g3⟩
     · omega
     · refine .inr ⟨by omega,by rw [Addr.add_none]; congr 1; omega,?_⟩
       have e1:lo * sz+(m' - lo) * sz=m' * sz:=by rw [←Nat.add_mul]; congr 1; omega
       have e2:m' * sz≤capc * sz:=Nat.mul_le_mul_right _ h2
       omega
theorem lst_part {cap:Option Nat} {xs:List AV} {p:Option Addr} {len capc m m' b l sz:Nat} {mxs:Bool} (hall:∀ x∈xs,x.cells.length=sz) (hx:VR j (.lst cap xs) (.slice p len capc))
 (h1:m≤m') (h2:m'≤capc) (h3:mxs=true→m'=m) (h5:l≤b) (h6:b≤m) (h7:m≤xs.length) :
 VR j (.lst (capOf mxs (Nat.sub m l)) ((xs.take b).drop l)) (.slice (if m'=l then p else p.map (·.add (l * sz))) (b - l) (m' - l)):=by
 have hex':∀ c,(capOf mxs (Nat.sub m l))=some c→m' - l=c:=by
  intro c hc
  cases mxs with
  | true=>cases hc; rw [h3 rfl]; rfl
  | false=>cases hc
 have hyl:((xs.take b).drop l).length=b - l:=by simp; omega
 by_cases h0:b=l
 · subst h0
   have:(xs.take b).drop b = []:=List.drop_eq_nil_of_le (by simp; omega)
   rw [this,Nat.sub_self]
   refine .lstE _ _ _ hex' fun hp=>?_
   by_cases he:m'=b
   · omega
   · rw [if_neg he] at hp
     cases hx with
     | lstE _ _ _ _ hp0 =>
      cases p with
      | none=>have:=hp0 rfl; omega
      | some ad=>cases hp
     | lst=>cases hp
 · cases hx with
   | lstE=>simp at h7; omega
   | lst _ _ b0 k capc sz' cs e fz hfr hcap hex hsz hk hv =>
   have hne:xs≠[]:=fun e0=>by subst e0; simp at h7; omega
   have hss:sz'=sz:=by
    obtain ⟨y,hy⟩:=List.exists_mem_of_ne_nil _ hne
    exact (hsz y hy).symm.trans (hall y hy)
   subst hss
   rw [if_neg (by omega)]
   simp only [Option.map_some,Addr.add_none]
   have hb1:b * sz'≤xs.length * sz':=Nat.mul_le_mul_right _ (by omega)
   have hb2:l * sz'+(b - l) * sz'=b * sz':=by rw [←Nat.add_mul]; congr 1; omega
   have hv':=(hv.take (b * sz')).drop (l * sz')
   rw [←cellsOf_take b hsz,← cellsOf_drop l fun x hx=>hsz x (List.mem_of_mem_take hx)] at hv'
   have h8:((cs.extract k (k+xs.length * sz')).toList.take (b * sz')).drop (l * sz')=(cs.extract (k+l * sz') (k+l * sz'+(b - l) * sz')).toList:=by
    simp only [Array.toList_extract,List.extract_eq_take_drop,List.drop_take,List.drop_drop,List.take_take]
    congr 1
    omega
   rw [h8,← hyl] at hv'
   have:=VR.lst (j:=j) _ ((xs.take b).drop l) b0 (k+l * sz') (m' - l) sz' cs e fz hfr (by rw [hyl]; omega) hex' (fun x hx=>hsz x (List.mem_of_mem_take (List.mem_of_mem_drop hx))) (by rw [hyl]; omega) hv'
   rw [hyl] at this
   exact this
theorem s_slsl {t e:TypeId} {x:Operand} {lo hi mx:Option Operand} {sz:Nat} (hT:TmR j nt tm a.tmps) (hR:RB P j h.blk n w) (hN:n≤N) (hop:o.op = .slice t x lo hi mx) (hok:slOk hi mx=true) (ht:P.underlying t=some (.slice e)) (hs:sizeOf? P e=some sz)
 (hr:r_slsl sz (cA x) (optCA lo) (optCA hi) (optCA mx) tm h = .val v h'):OpOk P o a w j h.blk v h'.blk N:=by
 unfold r_slsl at hr
 have hx:=evA hT x
 split at hr
 · rename_i e1
   rw [e1] at hx
   split at hr
   · rename_i m b l h1 h2 h3
     cases hr
     have hm0:m=0:=by rcases bound_spec hT h1 with ⟨_,rfl⟩ | ⟨_,_,h,_⟩ <;> omega
     have hb0:b=0:=by rcases bound_spec hT h2 with ⟨_,rfl⟩ | ⟨_,_,h,_⟩ <;> omega
     have hl0:l=0:=by rcases bound_spec hT h3 with ⟨_,rfl⟩ | ⟨_,_,h,_⟩ <;> omega
     subst hm0 hb0 hl0
     obtain ⟨m',hrun,_,hm',_⟩:=q_sliceBounds (P:=P) (w:=w) (isS:=true) hT (Nat.le_refl 0) (lo:=lo) hok h1 h2 h3 (Nat.le_refl _)
     have:m'=0:=by omega
     subst this
     generalize hp:a.eval x=p at hx
     cases hx
     refine OpOk.same (cv:=.slice none 0 0) ?_ .nils hR hN
     simp only [execOp,hop]
     refine run_v ?_
     rw [hp]
     simp only [Instr.sliceAt,Sem.run_bind,q_underlying ht,Result.andThen_ok,Instr.slice,hrun,q_sizeOf hs]
     simp
   · cases hr
 · rename_i f k len cap ex sz' e1
   rw [e1] at hx
   split at hr
   · rename_i hsz
     have hsz':=Nat.eq_of_beq_eq_true hsz
     subst hsz'
     split at hr
     · rename_i hlc
       have hlc':len≤cap:=Nat.le_of_ble_eq_true hlc
       unfold slK at hr
       split at hr
       · rename_i m h1
         split at hr
         · rename_i b h2
           split at hr
           · rename_i l h3
             cases hr
             generalize hp:a.eval x=p at hx
             cases hx with
             | sl _ _ _ _ _ _ lc ad capc hj hcap hex hlen hloc =>
             obtain ⟨m',hrun,g1,g2,g3,g4,g5,g6⟩:=q_sliceBounds (P:=P) (w:=w) (isS:=true) hT hcap (lo:=lo) hok h1 h2 h3 hlc'
             have hmx:(optCA mx).isSome=mx.isSome:=by cases mx <;> rfl
             rw [hmx]
             have hv:=sl_part (mxs:=mx.isSome) hj hex hloc g1 g2 g3 (fun e=>g4 (by cases mx <;> simp_all)) g5 g6
             refine OpOk.same ?_ hv hR hN
             simp only [execOp,hop]
             refine run_v ?_
             rw [hp]
             simp only [Instr.sliceAt,Sem.run_bind,q_underlying ht,Result.andThen_ok,Instr.slice,hrun,q_sizeOf hs]
             simp only [Option.map_some,Sem.run_pure]
             by_cases hml:m'=l
             · simp [hml]
             · simp [hml]
           · cases hr
         · cases hr
       · cases hr
     · cases hr
   · cases hr
 · rename_i cap xs e1
   rw [e1] at hx
   unfold slL at hr
   split at hr
   · cases hr
   · rename_i hall
     have hall:=allSz_spec hall
     split at hr
     · rename_i m h1
       split at hr
       · rename_i b h2
         split at hr
         · rename_i l h3
           cases hr
           generalize hp:a.eval x=p at hx
           obtain ⟨pa,capc,rfl,hcap⟩:∃ pa capc,p = .slice pa xs.length capc∧xs.length≤capc:=by
            cases hx with
            | lstE _ p0 c0=>exact ⟨p0,c0,rfl,Nat.zero_le _⟩
            | lst _ _ _ _ c0 _ _ _ _ _ hc=>exact ⟨_,c0,rfl,hc⟩
           have hm:m≤xs.length:=by rcases bound_spec hT h1 with ⟨_,rfl⟩ | ⟨_,_,h,_⟩ <;> omega
           obtain ⟨m',hrun,g1,g2,g3,g4,g5,g6⟩:=q_sliceBounds (P:=P) (w:=w) (isS:=true) hT hcap (lo:=lo) hok h1 h2 h3 (Nat.le_refl _)
           have hmx:(optCA mx).isSome=mx.isSome:=by cases mx <;> rfl
           rw [hmx]
           have hv:=lst_part (mxs:=mx.isSome) hall hx g1 g2 g3 g5 g6 hm
           refine OpOk.same ?_ hv hR hN
           simp only [execOp,hop]
           refine run_v ?_
           rw [hp]
           simp only [Instr.sliceAt,Sem.run_bind,q_underlying ht,Result.andThen_ok,Instr.slice,hrun,q_sizeOf hs]
           rfl
         · cases hr
       · cases hr
     · cases hr
 · cases hr
theorem s_slarr {t:TypeId} {x:Operand} {lo hi mx:Option Operand} {len sz:Nat} (hT:TmR j nt tm a.tmps) (hR:RB P j h.blk n w) (hN:n≤N) (hop:o.op = .slice t x lo hi mx) (hok:slOk hi mx=true)
 (hrun:∀ (ad:Addr) (l b m:Nat) (W:World),a.eval x = .pointer (some ad)→(Instr.sliceBounds false len len (lo.map a.eval) (hi.map a.eval) (mx.map a.eval)).run P W = .ok (l,b,m) W →
  (Instr.sliceAt t (a.eval x) (lo.map a.eval) (hi.map a.eval) (mx.map a.eval)).run P W = .ok (.slice (some (if m=l then ad else ad.add (l * sz))) (b - l) (m - l)) W)
 (hr:r_slarr len sz (cA x) (optCA lo) (optCA hi) (optCA mx) tm h = .val v h'):OpOk P o a w j h.blk v h'.blk N:=by
 unfold r_slarr at hr
 have hx:=evA hT x
 split at hr
 · rename_i f k e1
   rw [e1] at hx
   split at hr
   · rename_i c lo' top ty hb
     split at hr
     · rename_i htop
       have htop':k+len * sz≤top:=Nat.le_of_ble_eq_true htop
       obtain ⟨l0,cs,te,fz,h5,_,_,_,h9⟩:=hR.cells hb
       have hhi:=h9.hiB
       unfold slK at hr
       split at hr
       · rename_i m h1
         split at hr
         · rename_i b h2
           split at hr
           · rename_i l h3
             cases hr
             generalize hp:a.eval x=p at hx
             cases hx with
             | ptr _ _ lc hj hbase =>
             rw [h5] at hj; cases hj
             obtain ⟨m',hrunb,g1,g2,g3,g4,g5,g6⟩:=q_sliceBounds (P:=P) (w:=w) (isS:=false) hT (Nat.le_refl len) (lo:=lo) hok h1 h2 h3 (Nat.le_refl len)
             have hmx:(optCA mx).isSome=mx.isSome:=by cases mx <;> rfl
             rw [hmx]
             have hv:=sl_part (ad:=⟨l0.blk,k - l0.base,none⟩) (ex:=true) (mxs:=mx.isSome) (sz:=sz) h5 (fun _=>rfl) (.inr ⟨hbase,rfl,by omega⟩) g1 g2 g3 (fun e=>g4 (by cases mx <;> simp_all)) g5 g6
             refine OpOk.same ?_ hv hR hN
             simp only [execOp,hop]
             exact run_v (hrun _ _ _ _ _ hp hrunb)
           · cases hr
         · cases hr
       · cases hr
     · cases hr
   · cases hr
 · cases hr
theorem s_slarrA {t e:TypeId} {x:Operand} {lo hi mx:Option Operand} {len sz:Nat} (hT:TmR j nt tm a.tmps) (hR:RB P j h.blk n w) (hN:n≤N) (hop:o.op = .slice t x lo hi mx) (hok:slOk hi mx=true)
 (ht:P.underlying t=some (.array len e)) (hs:sizeOf? P e=some sz) (hr:r_slarr len sz (cA x) (optCA lo) (optCA hi) (optCA mx) tm h = .val v h'):OpOk P o a w j h.blk v h'.blk N:=by
 refine s_slarr hT hR hN hop hok (fun ad l b m W hp hb=>?_) hr
 rw [hp]
 simp only [Instr.sliceAt,Sem.run_bind,q_underlying ht,Result.andThen_ok,q_sureAddr,hb,q_sizeOf hs,Sem.run_pure]
theorem s_slarrP {t e arr:TypeId} {x:Operand} {lo hi mx:Option Operand} {len sz:Nat} (hT:TmR j nt tm a.tmps) (hR:RB P j h.blk n w) (hN:n≤N) (hop:o.op = .slice t x lo hi mx) (hok:slOk hi mx=true)
 (ht:P.underlying t=some (.pointer arr)) (ht':P.underlying arr=some (.array len e)) (hs:sizeOf? P e=some sz) (hr:r_slarr len sz (cA x) (optCA lo) (optCA hi) (optCA mx) tm h = .val v h'):OpOk P o a w j h.blk v h'.blk N:=by
 refine s_slarr hT hR hN hop hok (fun ad l b m W hp hb=>?_) hr
 rw [hp]
 simp only [Instr.sliceAt,Sem.run_bind,q_underlying ht,Result.andThen_ok,Instr.slice,asAddr,Sem.run_pure,q_underlying ht',hb,q_sizeOf hs]
theorem s_mkif {t:TypeId} {x:Operand} {td:TypeDesc} (hT:TmR j nt tm a.tmps) (hR:RB P j h.blk n w) (hN:n≤N) (hop:o.op = .makeInterface t x) (ht:P.underlying t=some td) (hni:∀ ms,td≠.interface ms)
 (hr:r_mkif t (cA x) tm h = .val v h'):OpOk P o a w j h.blk v h'.blk N:=by
 cases hr
 refine OpOk.same ?_ (.ifc t _ _ (evA hT x)) hR hN
 simp only [execOp,hop]
 refine run_v ?_
 simp only [Instr.makeInterface,Sem.run_bind,q_underlying ht,Result.andThen_ok]
 cases td <;> first | rfl | exact absurd rfl (hni _)
theorem s_mkfn {f:FuncId} {first captured:Array Operand} (hT:TmR j nt tm a.tmps) (hR:RB P j h.blk n w) (hN:n≤N) (hop:o.op = .makeFunc (.func f) first captured)
 (hr:r_mkfn f (first.toList.map cA) (captured.toList.map cA) tm h = .val v h'):OpOk P o a w j h.blk v h'.blk N:=by
 cases hr
 refine OpOk.same (cv:=.func (.func f) (first.map a.eval) (captured.map a.eval)) ?_ (.fn _ _ _ _ _ (by simpa using evAs hT first.toList) (by simpa using evAs hT captured.toList)) hR hN
 simp only [execOp,hop]
 exact run_v rfl
theorem s_mkmap {t:TypeId} (hR:RB P j h.blk n w) (hf:j h.next=none) (hN:n≤N) (hN':h'.next.toN≤N) (hop:o.op = .makeMap t none) (hr:r_mkmap tm h = .val v h'):OpOk P o a w j h.blk v h'.blk N:=by
 cases hr
 rw [H.blk_add]
 refine OpOk.new (f:=h.next) (base:=0) (csz:=0) (cv:=.map (some w.heap.size)) (ob:=.map #[] 0) ?_ hR hf hN (H.add_toN _ _ hN') (fun j' _ _ hj=>.map _ _ hj)
  (fun j' hj=>⟨rfl,#[],heap_push_new _ _,.nil,by simp⟩)
 simp only [execOp,hop]
 exact run_v rfl
theorem q_call {c:Call} {b:Builtin} {args:Array Operand} (hop:o.op = .call c) (hc:c.callee = .builtin b) (ha:c.args=args) {cs:Array Bool} (hcs:cs=(args.map fun | .const _=>true | _=>false)) :
 execOp a.eval o=builtin b c.argTypes o.type cs (args.map a.eval):=by
 simp only [execOp,hop,resolve,hc,ha,hcs]
 rfl
theorem s_len {c:Call} {x:Operand} {e:TypeId} (hT:TmR j nt tm a.tmps) (hR:RB P j h.blk n w) (hN:n≤N) (hop:o.op = .call c) (hc:c.callee = .builtin .len) (ha:c.args.toList = [x]) (ht:(c.argTypes[0]?).bind P.underlying=some (.slice e))
 (hr:r_len (cA x) tm h = .val v h'):OpOk P o a w j h.blk v h'.blk N:=by
 obtain ⟨t,h0,ht0⟩:=Option.bind_eq_some_iff.1 ht
 have hargs:c.args=#[x]:=by apply Array.ext'; simpa using ha
 have hx:=evA hT x
 unfold r_len at hr
 have hsl:∀ (ad:Option Addr) (m k:Nat),a.eval x = .slice ad m k→OpOk P o a w j h.blk (.int .i64 (m:Int)) h.blk N:=fun ad m k he=>by
  refine OpOk.same ?_ (.int _ _) hR hN
  rw [q_call hop hc hargs rfl]
  refine run_v ?_
  simp only [List.map_toArray,List.map_cons,List.map_nil,he]
  simp [Builtin.len_,h0,q_underlying ht0,goInt]
 split at hr
 · rename_i e
   rw [e] at hx
   cases hr
   generalize hp:a.eval x=p at hx
   cases hx
   exact hsl _ _ _ hp
 · rename_i e
   rw [e] at hx
   cases hr
   generalize hp:a.eval x=p at hx
   cases hx
   exact hsl _ _ _ hp
 · rename_i cap xs e
   rw [e] at hx
   cases hr
   generalize hp:a.eval x=p at hx
   cases hx
   · exact hsl _ _ _ hp
   · exact hsl _ _ _ hp
 · cases hr
theorem s_lens {c:Call} {x:Operand} (hT:TmR j nt tm a.tmps) (hR:RB P j h.blk n w) (hN:n≤N) (hop:o.op = .call c) (hc:c.callee = .builtin .len) (ha:c.args.toList = [x]) (ht:(c.argTypes[0]?).bind P.underlying=some .string)
 (hr:r_lens (cA x) tm h = .val v h'):OpOk P o a w j h.blk v h'.blk N:=by
 obtain ⟨t,h0,ht0⟩:=Option.bind_eq_some_iff.1 ht
 have hargs:c.args=#[x]:=by apply Array.ext'; simpa using ha
 have hx:=evA hT x
 unfold r_lens at hr
 split at hr
 · rename_i e
   rw [e] at hx
   cases hr
   generalize hp:a.eval x=p at hx
   cases hx
   rw [bytesOf_length]
   refine OpOk.same ?_ (.int _ _) hR hN
   rw [q_call hop hc hargs rfl]
   refine run_v ?_
   simp only [List.map_toArray,List.map_cons,List.map_nil,hp]
   simp [Builtin.len_,h0,q_underlying ht0,goInt]
 · cases hr
theorem s_lenm {c:Call} {x:Operand} {k e:TypeId} (hT:TmR j nt tm a.tmps) (hR:RB P j h.blk n w) (hN:n≤N) (hop:o.op = .call c) (hc:c.callee = .builtin .len) (ha:c.args.toList = [x]) (ht:(c.argTypes[0]?).bind P.underlying=some (.map k e))
 (hr:r_lenm (cA x) tm h = .val v h'):OpOk P o a w j h.blk v h'.blk N:=by
 obtain ⟨t,h0,ht0⟩:=Option.bind_eq_some_iff.1 ht
 have hargs:c.args=#[x]:=by apply Array.ext'; simpa using ha
 have hx:=evA hT x
 have hes:∀ {es:List (AV × AV)} {ces:Array MapEntry},EsR j es ces.toList→es.length=ces.size:=fun {es ces} h=>by
  have:∀ {es:List (AV × AV)} {cs:List MapEntry},EsR j es cs→es.length=cs.length:=fun h=>by induction h <;> simp_all
  simpa using this h
 have main:∀ {b:Nat} {ces:Array MapEntry},a.eval x = .map (some b)→w.heap[b]? = some (.map ces ces.size)→OpOk P o a w j h.blk (.int .i64 (.ofNat ces.size)) h.blk N:=fun {b ces} hp g4=>by
  refine OpOk.same ?_ (.int _ _) hR hN
  rw [q_call hop hc hargs rfl]
  refine run_v ?_
  simp only [List.map_toArray,List.map_cons,List.map_nil,hp]
  simp [Builtin.len_,h0,q_underlying ht0,goInt,getObj,Sem.run,g4]
 unfold r_lenm at hr
 split at hr
 · rename_i e
   rw [e] at hx
   cases hr
   generalize hp:a.eval x=p at hx
   cases hx
   refine OpOk.same ?_ (.int _ _) hR hN
   rw [q_call hop hc hargs rfl]
   refine run_v ?_
   simp only [List.map_toArray,List.map_cons,List.map_nil,hp]
   simp [Builtin.len_,h0,q_underlying ht0,goInt]
 · rename_i ks vs e
   rw [e] at hx
   cases hr
   generalize hp:a.eval x=p at hx
   cases hx with
   | fm _ _ b ces hfr hk hv hb =>
   have hlen:ks.length=ces.size:=by have:=hk.length; simpa using this.symm
   rw [hlen]
   exact main hp (hR.ice _ _ hfr).1
 · rename_i f e
   rw [e] at hx
   split at hr
   · rename_i es hb
     cases hr
     generalize hp:a.eval x=p at hx
     cases hx with
     | map _ l hj =>
     obtain ⟨l',g1,g2,g3,ces,g4,g5,g6⟩:=hR.blk f _ hb
     rw [g1] at hj; cases hj
     rw [hes g5]
     exact main hp g4
   · rename_i es hb
     cases hr
     generalize hp:a.eval x=p at hx
     cases hx with
     | map _ l hj =>
     obtain ⟨l',g1,g2,ces,g4,g5,g6⟩:=hR.blk f _ hb
     rw [g1] at hj; cases hj
     rw [hes g5]
     exact main hp (hR.ice _ _ g4).1
   · cases hr
 · cases hr
theorem s_lenc {c:Call} {x:Operand} {td:TypeDesc} {m:Nat} (hR:RB P j h.blk n w) (hN:n≤N) (hop:o.op = .call c) (hc:c.callee = .builtin .len) (ha:c.args.toList = [x]) (ht:(c.argTypes[0]?).bind P.underlying=some td)
 (htd:(∃ e,td = .array m e)∨∃ arr e,td = .pointer arr∧P.underlying arr=some (.array m e)) (hr:r_lenc m tm h = .val v h'):OpOk P o a w j h.blk v h'.blk N:=by
 obtain ⟨t,h0,ht0⟩:=Option.bind_eq_some_iff.1 ht
 have hargs:c.args=#[x]:=by apply Array.ext'; simpa using ha
 cases hr
 refine OpOk.same ?_ (.int _ _) hR hN
 rw [q_call hop hc hargs rfl]
 refine run_v ?_
 rcases htd with ⟨e,rfl⟩ | ⟨arr,e,rfl,ht1⟩
 · simp [Builtin.len_,h0,q_underlying ht0,goInt]
 · simp [Builtin.len_,h0,q_underlying ht0,goInt,q_underlying ht1]
theorem s_cap {c:Call} {x:Operand} {e:TypeId} (hT:TmR j nt tm a.tmps) (hR:RB P j h.blk n w) (hN:n≤N) (hop:o.op = .call c) (hc:c.callee = .builtin .cap) (ha:c.args.toList = [x]) (ht:(c.argTypes[0]?).bind P.underlying=some (.slice e))
 (hr:r_cap (cA x) tm h = .val v h'):OpOk P o a w j h.blk v h'.blk N:=by
 obtain ⟨t,h0,ht0⟩:=Option.bind_eq_some_iff.1 ht
 have hargs:c.args=#[x]:=by apply Array.ext'; simpa using ha
 have hx:=evA hT x
 unfold r_cap at hr
 have hsl:∀ (ad:Option Addr) (m k:Nat),a.eval x = .slice ad m k→OpOk P o a w j h.blk (.int .i64 (k:Int)) h.blk N:=fun ad m k he=>by
  refine OpOk.same ?_ (.int _ _) hR hN
  rw [q_call hop hc hargs rfl]
  refine run_v ?_
  simp only [List.map_toArray,List.map_cons,List.map_nil,he]
  simp [Builtin.cap_,h0,q_underlying ht0,goInt]
 split at hr
 · rename_i e
   rw [e] at hx
   cases hr
   generalize hp:a.eval x=p at hx
   cases hx
   exact hsl _ _ _ hp
 · rename_i e
   rw [e] at hx
   cases hr
   generalize hp:a.eval x=p at hx
   cases hx with
   | sl _ _ _ _ _ _ l ad capc hj hcap hex hlen hloc =>
   have:=hex rfl
   subst this
   exact hsl _ _ _ hp
 · cases hr
end
end Go.Ev
namespace Go.Ev
variable {P:Env}
section
variable {o:Oper} {a:Act} {w:World} {j:Inj} {n N nt:Nat} {tm:Tm} {h h':H} {v:AV}
theorem growBy_le (need:Nat):∀ (r c:Nat),c≤2 * need+1000→Builtin.growBy need r c≤2 * need+1000:=by
 intro r
 induction r with
 | zero=>intro c h; exact h
 | succ r ih =>
  intro c h
  unfold Builtin.growBy
  split
  · exact h
  · exact ih _ (by omega)
theorem nextslicecap_le {need old:Nat} (h:old < need):Builtin.nextslicecap need old≤2 * need+1000:=by
 unfold Builtin.nextslicecap
 split
 · omega
 · split
   · omega
   · exact growBy_le _ _ _ (by omega)
theorem q_app_in {ats:Array TypeId} {ty st xt e:TypeId} {td:TypeDesc} {x:Value} {base:Option Addr} {sLen sCap sz m:Nat} {news:Array Value} (h0:ats[0]? = some st) (h1:ats[1]? = some xt) (hst:P.underlying st=some (.slice e))
 (hxt:P.underlying xt=some td) (hz:∀ k,td≠.int k) (hsz:sizeOf? P e=some sz) (hn:(Builtin.lenOf x).run P w = .ok m w) (hnew:(Builtin.firstCells sz m x).run P w = .ok news w) (hle:sLen+m≤sCap) {w':World}
 (hst':∀ ad,base=some ad→(storeCells (ad.add (sLen * sz)) news.toList).run P w = .ok () w') (hnil:base=none→w'=w) :
 (Builtin.append_ ats ty #[.slice base sLen sCap,x]).run P w = .ok (.slice base (sLen+m) sCap) w':=by
 simp only [Builtin.append_,h0,h1]
 simp only [List.getElem?_toArray,List.getElem?_cons_zero,List.getElem?_cons_succ,Sem.run_bind,q_underlying hst,Result.andThen_ok,q_sizeOf hsz,q_underlying hxt,Sem.run_pure]
 simp only [Bool.false_eq_true,if_false,Sem.run_bind,hn,Result.andThen_ok,if_pos hle,Bool.not_false,if_true,hnew]
 cases base with
 | none=>rw [hnil rfl]; rfl
 | some ad=>simp only [Sem.run_bind,hst' ad rfl,Result.andThen_ok,Sem.run_pure]
theorem q_choose_cap (need old:Nat) (e:TypeId):(choose (.appendCap need old e)).run P w = .ok (grownCap w need old e) { w with drawn:=w.drawn+1 }:=rfl
theorem q_app_new {ats:Array TypeId} {ty st xt e:TypeId} {td:TypeDesc} {x:Value} {base:Option Addr} {sLen sCap sz b m:Nat} {news old:Array Value} {z:Value} (h0:ats[0]? = some st) (h1:ats[1]? = some xt) (hst:P.underlying st=some (.slice e))
 (hxt:P.underlying xt=some td) (hz:∀ k,td≠.int k) (hsz:sizeOf? P e=some sz) (hb:bytesOf? P e=some b) (hn:(Builtin.lenOf x).run P w = .ok m w)
 (hnew:(Builtin.firstCells sz m x).run P { w with drawn:=w.drawn+1 } = .ok news { w with drawn:=w.drawn+1 })
 (hold:(Builtin.firstCells sz sLen (.slice base sLen sCap)).run P { w with drawn:=w.drawn+1 } = .ok old { w with drawn:=w.drawn+1 })
 (hzero:(zeroValue e).run P { w with drawn:=w.drawn+1 } = .ok z { w with drawn:=w.drawn+1 })
 (hle:sCap < sLen+m) (hbig:(sLen+m) * (b+1)≤1000000000) :
 (Builtin.append_ ats ty #[.slice base sLen sCap,x]).run P w = .ok (.slice (some ⟨w.heap.size,0,none⟩) (sLen+m) (grownCap w (sLen+m) sCap e))
  { w with drawn:=w.drawn+1,heap:=w.heap.push (.cells (old++news++Builtin.zeroCells z.cells (grownCap w (sLen+m) sCap e - (sLen+m))) e) }:=by
 obtain ⟨i,hi1,hi2⟩:=bytesOf?_info hb
 have hbig1:sLen+m≤1000000000:=Nat.le_trans (Nat.le_mul_of_pos_right _ (by omega)) hbig
 have hcap:¬ Builtin.nextslicecap (sLen+m) sCap * i.bytes > 2 ^ 48:=by
  rw [hi2]
  have h2:=nextslicecap_le hle
  have h3:Builtin.nextslicecap (sLen+m) sCap * b≤(2 * (sLen+m)+1000) * b:=Nat.mul_le_mul_right _ h2
  have h4:(2 * (sLen+m)+1000) * b≤1002 * ((sLen+m) * (b+1)):=by
   have:2 * (sLen+m)+1000≤1002 * (sLen+m):=by omega
   calc (2 * (sLen+m)+1000) * b≤1002 * (sLen+m) * b:=Nat.mul_le_mul_right _ this
    _=1002 * ((sLen+m) * b):=Nat.mul_assoc _ _ _
    _≤1002 * ((sLen+m) * (b+1)):=Nat.mul_le_mul_left _ (Nat.mul_le_mul_left _ (by omega))
  omega
 simp only [Builtin.append_,h0,h1]
 simp only [List.getElem?_toArray,List.getElem?_cons_zero,List.getElem?_cons_succ,Sem.run_bind,q_underlying hst,Result.andThen_ok,q_sizeOf hsz,q_underlying hxt,Sem.run_pure]
 have hno:¬ (((sLen+m:Nat):Int) > IntKind.i64.max∧(false=true∨i.bytes=0)):=by simp [IntKind.max,IntKind.signed,IntKind.bits]; omega
 simp only [Bool.false_eq_true,if_false,Sem.run_bind,hn,Result.andThen_ok,if_neg (show ¬ sLen+m≤sCap by omega),Bool.not_false,if_true,q_typeInfo hi1]
 simp only [Bool.false_eq_true] at hno
 rw [if_neg hno]
 simp only [Sem.run_bind,q_typeInfo hi1,Result.andThen_ok]
 rw [if_neg hcap]
 simp only [Sem.run_bind,q_choose_cap,Result.andThen_ok,q_typeInfo hi1,q_askRoom,hold,hnew,hzero,Sem.run_pure]
 rfl
theorem joinTy_cases (e:TypeId) (ty:Ty):(joinTy e ty = .row e∧ty = .row e)∨joinTy e ty = .any:=by
 cases ty with
 | any=>exact .inr rfl
 | row t =>
  have hd:joinTy e (.row t)=(match Nat.beq e t with | true=>Ty.row e | false=>Ty.any):=rfl
  cases hb:Nat.beq e t with
  | true=>rw [hb] at hd; rw [←Nat.eq_of_beq_eq_true hb] at hd ⊢; exact .inl ⟨hd,rfl⟩
  | false=>rw [hb] at hd; exact .inr hd
 | var t n=>exact .inr rfl
theorem joinTy_new {e:TypeId} {ty:Ty} {fz:Nat × Nat} {l:Loc}:TyOk (joinTy e ty) e fz l:=by
 rcases joinTy_cases e ty with ⟨h,_⟩ | h <;> rw [h]
 · rfl
 · trivial
theorem joinTy_old {e t:TypeId} {ty:Ty} {fz:Nat × Nat} {l:Loc} (ht:TyOk ty t fz l):TyOk (joinTy e ty) t fz l:=by
 rcases joinTy_cases e ty with ⟨h,h2⟩ | h <;> rw [h]
 · rw [h2] at ht; exact ht
 · trivial
theorem RB.rename {j:Inj} {bl:Bl} {n:Nat} {w:World} (h:RB P j bl n w) {f f':Pos} {c:T AV} {lo hi lo' hi':Nat} {ty ty':Ty} (hb:bl f=some (.cells c lo hi ty)) {l:Loc} (hl:j f=some l) (hf':j f'=none) (h1:lo≤lo') (h2:hi'≤hi) (hty:∀ e fz,TyOk ty e fz l→TyOk ty' e fz l)
 {N:Nat} (hN:n≤N) (hfN:f'.toN < N):RB P (j.upd f' l) ((bl.upd f .dead).upd f' (.cells c lo' hi' ty')) N w∧Ext j bl w (j.upd f' l) ((bl.upd f .dead).upd f' (.cells c lo' hi' ty')) w:=by
 have hle:=Inj.le_upd (j:=j) (f:=f') l hf'
 have hne:f'≠f:=fun e=>by subst e; rw [hl] at hf'; cases hf'
 obtain ⟨l0,h3,h4,h5⟩:=h.blk f _ hb
 rw [hl] at h3; cases h3
 have hlive:∀ g,Live ((bl.upd f .dead).upd f' (.cells c lo' hi' ty')) g→f'≠g→f≠g∧Live bl g:=fun g ⟨b,hb1,hb2⟩ e=>by
  rw [Bl.upd_ne _ _ e] at hb1
  by_cases e2:f=g
  · subst e2; rw [Bl.upd_same] at hb1; cases hb1; exact hb2.elim
  · exact ⟨e2,b,by rw [Bl.upd_ne _ _ e2] at hb1; exact hb1,hb2⟩
 refine ⟨⟨fun g lg hg=>?_,fun g b hg=>?_,fun g k lg lk hg hk jg jk e=>?_,fun g lg hg jg=>?_,fun k o hk=>⟨(h.ice k o hk).1,(h.ice k o hk).2.1,fun g lg hg jg=>?_⟩,h.size,h.inv⟩,⟨hle,Nat.le_refl _,fun _ _ _=>rfl,fun g lg hg jg=>?_,rfl,rfl,rfl,fun g h1 h2=>by rw [Inj.upd_ne _ _ (Bl.upd_none h2).1]; exact h1,fun g h2=>(Bl.upd_none (Bl.upd_none h2).2).2,fun _ _ h=>.inl h⟩⟩
 · by_cases e:f'=g
   · subst e; exact hfN
   · rw [Inj.upd_ne _ _ e] at hg; have:=h.fresh g lg hg; omega
 · by_cases e:f'=g
   · subst e
     rw [Bl.upd_same] at hg; cases hg
     refine ⟨l,Inj.upd_same _ _ _,fun _=>h4 trivial,?_⟩
     obtain ⟨cs,te,fz,g1,g2,g3,g4,g5,g6,g7⟩:=h5
     exact ⟨cs,te,fz,g1,g2,g3,by omega,by omega,fun i v a b ht=>let ⟨cv,x,y⟩:=g6 i v (by omega) (by omega) ht; ⟨cv,x,y.mono hle⟩,hty te fz g7⟩
   · rw [Bl.upd_ne _ _ e] at hg
     by_cases e2:f=g
     · subst e2
       rw [Bl.upd_same] at hg; cases hg
       exact ⟨l,by rw [Inj.upd_ne _ _ e]; exact hl,fun hc=>hc.elim,trivial⟩
     · rw [Bl.upd_ne _ _ e2] at hg
       obtain ⟨lg,g1,g2,g3⟩:=h.blk g b hg
       exact ⟨lg,by rw [Inj.upd_ne _ _ e]; exact g1,g2,g3.keep hle rfl⟩
 · by_cases e1:f'=g
   · by_cases e2:f'=k
     · exact e1.symm.trans e2
     · exfalso
       subst e1
       rw [Inj.upd_same] at jg; cases jg
       rw [Inj.upd_ne _ _ e2] at jk
       obtain ⟨hne2,hk'⟩:=hlive k hk e2
       exact hne2 (h.apart f k l lk ⟨_,hb,trivial⟩ hk' hl jk e)
   · by_cases e2:f'=k
     · exfalso
       subst e2
       rw [Inj.upd_same] at jk; cases jk
       rw [Inj.upd_ne _ _ e1] at jg
       obtain ⟨hne2,hg'⟩:=hlive g hg e1
       exact hne2 (h.apart f g l lg ⟨_,hb,trivial⟩ hg' hl jg e.symm)
     · rw [Inj.upd_ne _ _ e1] at jg
       rw [Inj.upd_ne _ _ e2] at jk
       exact h.apart g k lg lk (hlive g hg e1).2 (hlive k hk e2).2 jg jk e
 · by_cases e:f'=g
   · subst e
     rw [Inj.upd_same] at jg; cases jg
     exact h.far f l ⟨_,hb,trivial⟩ hl
   · rw [Inj.upd_ne _ _ e] at jg
     exact h.far g lg (hlive g hg e).2 jg
 · by_cases e:f'=g
   · subst e
     rw [Inj.upd_same] at jg; cases jg
     exact (h.ice k o hk).2.2 f l ⟨_,hb,trivial⟩ hl
   · rw [Inj.upd_ne _ _ e] at jg
     exact (h.ice k o hk).2.2 g lg (hlive g hg e).2 jg
 · by_cases e:f'=g
   · subst e
     rw [Inj.upd_same] at jg; cases jg
     exact .inr ⟨f,l,⟨_,hb,trivial⟩,hl,rfl⟩
   · rw [Inj.upd_ne _ _ e] at jg
     exact .inr ⟨g,lg,(hlive g hg e).2,jg,rfl⟩
structure Src (P:Env) (j:Inj) (w:World) (sz:Nat) (x:Value) (m:Nat) (xs:List AV) (news:Array Value):Prop where
 len:(Builtin.lenOf x).run P w = .ok m w
 first:∀ d,(Builtin.firstCells sz m x).run P { w with drawn:=d } = .ok news { w with drawn:=d }
 rel:VRs j xs news.toList
 size:xs.length=m * sz
theorem elems_spec {sz m:Nat} {x:AV} {xs:List AV} (hR:RB P j h.blk n w) (he:elemsA h sz x=some (m,xs)) {c:Value} (hx:VR j x c):∃ news,Src P j w sz c m xs news:=by
 unfold elemsA at he
 split at he
 · rename_i cap ys
   split at he
   · rename_i hall
     cases he
     have hall:=allSz_spec hall
     cases hx with
     | lstE _ p0 c0 _ _=>exact ⟨#[],rfl,fun d=>by cases p0 <;> simp [Builtin.firstCells,loadCells,loadCellsFrom],.nil,by simp [cellsOf]⟩
     | lst _ _ b k capc sz' cs e fz hfr hcap hex hsz hk hv =>
      by_cases h0:ys = []
      · subst h0
        exact ⟨#[],rfl,fun d=>by simp [Builtin.firstCells,loadCells,loadCellsFrom],.nil,by simp [cellsOf]⟩
      · have hss:sz'=sz:=by
         obtain ⟨y,hy⟩:=List.exists_mem_of_ne_nil _ h0
         exact (hsz y hy).symm.trans (hall y hy)
        subst hss
        have hl:=(hR.ice _ _ hfr).1
        exact ⟨cs.extract k (k+ys.length * sz'),rfl,fun d=>by simp only [Builtin.firstCells]; exact run_loadCells (w:={ w with drawn:=d }) hl hk,hv,cellsOf_length hsz⟩
   · cases he
 · cases he; cases hx
   exact ⟨#[],rfl,fun d=>rfl,.nil,by simp⟩
 · rename_i f k len cap ex sz'
   split at he
   · rename_i hsz
     have hsz':=Nat.eq_of_beq_eq_true hsz
     subst hsz'
     split at he
     · rename_i cs hl
       cases he
       cases hx with
       | sl _ _ _ _ _ _ l ad capc hj hcap hex hlen hloc =>
       obtain ⟨h1,h2,cc,h3,h4⟩:=ldn_spec_d hR hl hj
       rcases hloc with h0 | ⟨_,rfl,_⟩
       · have hm0:m=0:=by omega
         subst hm0
         have h2':xs.length=0:=by rw [h2]; exact Nat.zero_mul _
         have:xs = []:=List.length_eq_zero_iff.1 h2'
         subst this
         exact ⟨#[],rfl,fun d=>by simp [Builtin.firstCells,loadCells,loadCellsFrom],.nil,by simp⟩
       · exact ⟨cc,rfl,fun d=>by simp only [Builtin.firstCells]; exact h3 d,h4,h2⟩
     · cases he
   · cases he
 · rename_i s
   split at he
   · rename_i hsz
     have hsz':=Nat.eq_of_beq_eq_true hsz
     subst hsz'
     cases he
     cases hx with
     | str bs =>
     refine ⟨bs.data.map fun b=>.int .u8 b.toNat,by rw [bytesOf_length]; rfl,fun d=>?_,?_,?_⟩
     · rw [bytesOf_length]
       simp only [Builtin.firstCells,Sem.run_pure]
       congr 2
       have:bs.extract 0 bs.size=bs:=by
        apply ByteArray.ext
        rw [ByteArray.data_extract]
        have:bs.size=bs.data.size:=rfl
        rw [this]; simp
       rw [this]
     · have:=u8s_VRs (j:=j) bs.data.toList
       simpa [bytesOf] using this
     · have:=(u8s_VRs (j:=j) bs.data.toList).length
       simp at this
       simp only [bytesOf]
       rw [←this]; simp
   · cases he
 · cases he; cases hx
   exact ⟨#[],rfl,fun d=>by simp [Builtin.firstCells,loadCells,loadCellsFrom],.nil,by simp⟩
 · cases he
theorem zeroCells_size (z:Array Value) (m:Nat):(Builtin.zeroCells z m).size=m * z.size:=by simp [Builtin.zeroCells]
theorem old_spec {k len:Nat} {sz:Nat} {c:T AV} {lo hi:Nat} {l:Loc} {cs:Array Value} {te:TypeId} {fz:Nat × Nat} {ad:Addr} {capc:Nat} (h7:w.heap[l.blk]? = some (.cells cs te fz)) (h9:CellsAt j c lo hi l cs)
 (hlo:lo≤k) (hhi:k+len * sz≤hi) (hlen:len≤capc) (hloc:capc=0∨(l.base≤k∧ad=⟨l.blk,k - l.base,none⟩∧(k - l.base)+capc * sz≤l.csz)) (d:Nat) :
 (Builtin.firstCells sz len (.slice (some ad) len capc)).run P { w with drawn:=d } = .ok (cs.extract (k - l.base) (k - l.base+len * sz)) { w with drawn:=d }:=by
 have:=h9.loB
 have:=h9.hiB
 have:=h9.size
 rcases hloc with h0 | ⟨_,rfl,_⟩
 · have hm0:len=0:=by omega
   subst hm0
   simp [Builtin.firstCells,loadCells,loadCellsFrom]
   omega
 · simp only [Builtin.firstCells]
   exact run_loadCells (w:={ w with drawn:=d }) h7 (by omega)
theorem grown_at {k len m:Nat} {sz:Nat} {c:T AV} {lo hi:Nat} {l:Loc} {cs news rest:Array Value} {xs:List AV} {blk:Nat} (h9:CellsAt j c lo hi l cs) (hlo:lo≤k) (hhi:k+len * sz≤hi) (hv:VRs j xs news.toList)
 (hxs:xs.length=m * sz):CellsAt j (setFrom xs c (k+len * sz)) k (k+(len+m) * sz) ⟨blk,k,(cs.extract (k - l.base) (k - l.base+len * sz)++news++rest).size⟩ (cs.extract (k - l.base) (k - l.base+len * sz)++news++rest):=by
 have hb:=h9.loB
 have hbi:=h9.hiB
 have hsz:=h9.size
 have hl:=hv.length
 simp at hl
 have hmul:(len+m) * sz=len * sz+m * sz:=Nat.add_mul _ _ _
 have hex:(cs.extract (k - l.base) (k - l.base+len * sz)).size=len * sz:=by simp; omega
 refine ⟨Nat.le_refl _,by simp only [Array.size_append]; omega,rfl,fun i v hi1 hi2 ht=>?_⟩
 change ∃ cv,(cs.extract (k - l.base) (k - l.base+len * sz)++news++rest)[i - k]? = some cv∧VR j v cv
 rw [setFrom_get] at ht
 by_cases e:k+len * sz≤i∧i < k+len * sz+xs.length
 · rw [if_pos e] at ht
   obtain ⟨cv,g1,g2⟩:=hv.get ht
   refine ⟨cv,?_,g2⟩
   have g1':news[i - (k+len * sz)]? = some cv:=by simpa using g1
   rw [Array.append_assoc,Array.getElem?_append_right (by omega),Array.getElem?_append_left (by omega)]
   rw [hex,show i - k - len * sz=i - (k+len * sz) from by omega]
   exact g1'
 · rw [if_neg e] at ht
   obtain ⟨cv,g1,g2⟩:=h9.at_ i v (by omega) (by omega) ht
   refine ⟨cv,?_,g2⟩
   rw [Array.append_assoc,Array.getElem?_append_left (by omega),Array.getElem?_extract]
   rw [if_pos (by omega),show k - l.base+(i - k)=i - l.base from by omega]
   exact g1
end
end Go.Ev
namespace Go.Ev
variable {P:Env}
theorem pureAVs_append:∀ {a b:List AV},pureAVs (a++b)=and (pureAVs a) (pureAVs b):=by
 intro a
 induction a with
 | nil=>intro b; simp [pureAVs]
 | cons x a ih=>intro b; simp [pureAVs,ih,Bool.and_assoc]
theorem pure_cells {v:AV} (h:pureAV v=true):pureAVs v.cells=true:=by
 cases v <;> first | (simp only [AV.cells,pureAVs,Bool.and_true]; exact h) | (simp only [AV.cells]; simpa [pureAV] using h) | cases h
theorem pure_cellsOf:∀ {xs:List AV},pureAVs xs=true→pureAVs (cellsOf xs)=true:=by
 intro xs
 induction xs with
 | nil=>intro _; rfl
 | cons x xs ih =>
  intro h
  obtain ⟨h1,h2⟩:=and_true (show and (pureAV x) (pureAVs xs)=true from h)
  rw [cellsOf_cons,pureAVs_append,pure_cells h1,ih h2]; rfl
mutual
theorem VR.pure {j j':Inj} (hf:∀ b o,j.fro b=some o→j'.fro b=some o) (hsy:j'.sy=j.sy):∀ {v:AV} {c:Value},VR j v c→pureAV v=true→VR j' v c
 | _,_,.junk v,h=>by simp [pureAV] at h
 | _,_,.bool b,_=>.bool b
 | _,_,.int k n,_=>.int k n
 | _,_,.str s,_=>.str s
 | _,_,.nilp,_=>.nilp
 | _,_,.ptr f o l h hb,hp=>by simp [pureAV] at hp
 | _,_,.nils,hp=>by simp [pureAV] at hp
 | _,_,.sl f o len cap ex sz l a capc h hcap hex hlen hloc,hp=>by simp [pureAV] at hp
 | _,_,.nilm,_=>.nilm
 | _,_,.map f l h,hp=>by simp [pureAV] at hp
 | _,_,.nilf,_=>.nilf
 | _,_,.fn f a b va vb h1 h2,hp=>.fn f a b va vb (h1.pure hf hsy (and_true (show and (pureAVs a) (pureAVs b)=true from by simpa [pureAV] using hp)).1) (h2.pure hf hsy (and_true (show and (pureAVs a) (pureAVs b)=true from by simpa [pureAV] using hp)).2)
 | _,_,.yld f l h,hp=>by simp [pureAV] at hp
 | _,_,.nili,_=>.nili
 | _,_,.ifc t v cv h,hp=>.ifc t v cv (h.pure hf hsy (by simpa [pureAV] using hp))
 | _,_,.agg cs vs h,hp=>.agg cs vs (h.pure hf hsy (by simpa [pureAV] using hp))
 | _,_,.tup cs vs h,hp=>.tup cs vs (h.pure hf hsy (by simpa [pureAV] using hp))
 | _,_,.lstE cap p capc hex hp,_=>.lstE cap p capc hex hp
 | _,_,.lst cap xs b k capc sz cs e fz hfr hcap hex hsz hk hv,hp=>.lst cap xs b k capc sz cs e fz (hf _ _ hfr) hcap hex hsz hk (hv.pure hf hsy (pure_cellsOf (by simpa [pureAV] using hp)))
 | _,_,.lp us b k cs e fz hfr hk hv,hp=>.lp us b k cs e fz (hf _ _ hfr) hk (hv.pure hf hsy (by simpa [pureAV] using hp))
 | _,_,.fm ks vs b ces hfr hk hv hb,hp=>.fm ks vs b ces (hf _ _ hfr) (hk.pure hf hsy (and_true (show and (pureAVs ks) (pureAVs vs)=true from by simpa [pureAV] using hp)).1) (hv.pure hf hsy (and_true (show and (pureAVs ks) (pureAVs vs)=true from by simpa [pureAV] using hp)).2) hb
 | _,_,.ne a c,_=>.ne a c
 | _,_,.sym n,_=>by rw [← hsy]; exact .sym n
 | _,_,.tx n,_=>by rw [← hsy]; exact .tx n
theorem VRs.pure {j j':Inj} (hf:∀ b o,j.fro b=some o→j'.fro b=some o) (hsy:j'.sy=j.sy):∀ {v:List AV} {c:List Value},VRs j v c→pureAVs v=true→VRs j' v c
 | _,_,.nil,_=>.nil
 | _,_,.cons v vs c cs h hs,hp=>.cons v vs c cs (h.pure hf hsy (and_true (show and (pureAV v) (pureAVs vs)=true from by simpa [pureAVs] using hp)).1) (hs.pure hf hsy (and_true (show and (pureAV v) (pureAVs vs)=true from by simpa [pureAVs] using hp)).2)
end
theorem consC_some {x:Option (AV × List Pos)} {xs:Option (List AV × List Pos)} {r:List AV × List Pos} (h:consC x xs=some r):∃ v p vs q,x=some (v,p)∧xs=some (vs,q)∧r=(v :: vs,p++q):=by
 unfold consC at h
 split at h
 · cases h; exact ⟨_,_,_,_,rfl,rfl,rfl⟩
 · cases h
theorem mapC_some {f:List AV→AV} {p:List Pos} {x:Option (List AV × List Pos)} {r:AV × List Pos} (h:mapC f p x=some r):∃ vs q,x=some (vs,q)∧r=(f vs,p++q):=by
 unfold mapC at h
 split at h
 · cases h; exact ⟨_,_,rfl,rfl⟩
 · cases h
theorem convM_some {f:Pos} {b:Option Blk} {r:AV × List Pos} (h:convM f b=some r):∃ es,(b=some (.map es)∨b=some (.imap es))∧pureAVs (keysOf es)=true∧pureAVs (valsOf es)=true∧r=(.fm (keysOf es) (valsOf es),[f]):=by
 unfold convM at h
 split at h
 · rename_i es
   split at h
   · rename_i hp; cases h; exact ⟨es,.inl rfl,(and_true hp).1,(and_true hp).2,rfl⟩
   · cases h
 · rename_i es
   split at h
   · rename_i hp; cases h; exact ⟨es,.inr rfl,(and_true hp).1,(and_true hp).2,rfl⟩
   · cases h
 · cases h
theorem convs_pure {f:AV→Option (AV × List Pos)} (hf:∀ v r,f v=some r→pureAV r.1=true):∀ {vs:List AV} {r:List AV × List Pos},convs f vs=some r→pureAVs r.1=true:=by
 intro vs
 induction vs with
 | nil=>intro r h; cases h; rfl
 | cons v vs ih =>
  intro r h
  obtain ⟨v',p,vs',q,h1,h2,rfl⟩:=consC_some h
  simp only [pureAVs,hf _ _ h1,ih h2,Bool.and_true]
theorem conv_pure {h:H}:∀ (d:Nat) (v:AV) (r:AV × List Pos),conv h d v=some r→pureAV r.1=true:=by
 intro d
 induction d with
 | zero=>intro v r hr; cases hr
 | succ d ih =>
  intro v r hr
  unfold conv at hr
  split at hr
  · rename_i hp; cases hr; exact hp
  · unfold convK at hr
    split at hr
    · cases hr; rfl
    · cases hr; rfl
    · split at hr
      · split at hr
        · obtain ⟨vs,q,h1,rfl⟩:=mapC_some hr
          have:=convs_pure ih h1
          simpa [pureAV] using this
        · cases hr
      · cases hr
    · split at hr
      · split at hr
        · obtain ⟨vs,q,h1,rfl⟩:=mapC_some hr
          have:=convs_pure ih h1
          simpa [pureAV] using this
        · cases hr
      · cases hr
    · obtain ⟨vs,q,h1,rfl⟩:=mapC_some hr
      have:=convs_pure ih h1
      simpa [pureAV] using this
    · obtain ⟨vs,q,h1,rfl⟩:=mapC_some hr
      have:=convs_pure ih h1
      simpa [pureAV] using this
    · split at hr
      · rename_i h1 h2
        cases hr
        have g1:=convs_pure ih h1
        have g2:=convs_pure ih h2
        simp only [pureAV]
        rw [show pureAVs _=true from g1,show pureAVs _=true from g2]; rfl
      · cases hr
    · obtain ⟨es,_,p1,p2,rfl⟩:=convM_some hr
      simp only [pureAV,p1,p2]; rfl
    · cases hr
theorem convs_length {f:AV→Option (AV × List Pos)}:∀ {vs:List AV} {r:List AV × List Pos},convs f vs=some r→r.1.length=vs.length:=by
 intro vs
 induction vs with
 | nil=>intro r h; cases h; rfl
 | cons v vs ih =>
  intro r h
  obtain ⟨v',p,vs',q,h1,h2,rfl⟩:=consC_some h
  simpa using ih h2
theorem conv_cells {h:H} {d:Nat} {v:AV} {r:AV × List Pos} (hr:conv h d v=some r):r.1.cells.length=v.cells.length:=by
 cases d with
 | zero=>cases hr
 | succ d =>
  unfold conv at hr
  split at hr
  · cases hr; rfl
  · unfold convK at hr
    split at hr
    · cases hr; rfl
    · cases hr; rfl
    · split at hr
      · split at hr
        · obtain ⟨vs,q,h1,rfl⟩:=mapC_some hr; rfl
        · cases hr
      · cases hr
    · split at hr
      · split at hr
        · obtain ⟨vs,q,h1,rfl⟩:=mapC_some hr; rfl
        · cases hr
      · cases hr
    · obtain ⟨vs,q,h1,rfl⟩:=mapC_some hr
      exact convs_length h1
    · obtain ⟨vs,q,h1,rfl⟩:=mapC_some hr; rfl
    · split at hr
      · cases hr; rfl
      · cases hr
    · obtain ⟨es,_,_,_,rfl⟩:=convM_some hr; rfl
    · cases hr
theorem conv_one {h:H} {d:Nat} {v:AV} {r:AV × List Pos} (hr:conv h d v=some r) (hv:v.one=true):r.1.one=true:=by
 cases d with
 | zero=>cases hr
 | succ d =>
  unfold conv at hr
  split at hr
  · cases hr; exact hv
  · unfold convK at hr
    split at hr
    · cases hr; rfl
    · cases hr; rfl
    · split at hr
      · split at hr
        · obtain ⟨vs,q,h1,rfl⟩:=mapC_some hr; rfl
        · cases hr
      · cases hr
    · split at hr
      · split at hr
        · obtain ⟨vs,q,h1,rfl⟩:=mapC_some hr; rfl
        · cases hr
      · cases hr
    · cases hv
    · cases hv
    · split at hr
      · cases hr; rfl
      · cases hr
    · obtain ⟨es,_,_,_,rfl⟩:=convM_some hr; rfl
    · cases hr
def froO:Option Obj→Option Obj
 | some (.cells cs e fz)=>some (.cells cs e fz)
 | some (.map ces n)=>some (.map ces n)
 | _=>none
theorem froO_some {x:Option Obj} {o:Obj} (h:froO x=some o):x=some o∧IsFro o:=by
 unfold froO at h
 split at h
 · cases h; exact ⟨rfl,.inl ⟨_,_,_,rfl⟩⟩
 · cases h; exact ⟨rfl,.inr ⟨_,_,rfl⟩⟩
 · cases h
theorem froO_of {o:Obj} (h:IsFro o):froO (some o)=some o:=by
 rcases h with ⟨cs,e,fz,rfl⟩ | ⟨ces,n,rfl⟩ <;> rfl
noncomputable def Inj.frz (j:Inj) (w:World) (S:Nat→Prop):Inj :=
 { j with fro:=fun b=>match j.fro b with
  | some o=>some o
  | none=>@ite _ (S b) (Classical.propDecidable _) (froO w.heap[b]?) none }
theorem Inj.le_frz (j:Inj) (w:World) (S:Nat→Prop):j.le (j.frz w S):=⟨fun _ _ h=>h,fun b o hb=>by show (match j.fro b with | some o=>some o | none=>_)=some o; rw [hb],rfl⟩
theorem Inj.frz_at {j:Inj} {bl:Bl} {n:Nat} {w:World} (hR:RB P j bl n w) {S:Nat→Prop} {b:Nat} (hS:S b∨∃ o,j.fro b=some o) {o:Obj} (hb:w.heap[b]? = some o) (ho:IsFro o) :
 (j.frz w S).fro b=some o:=by
 show (match j.fro b with | some o=>some o | none=>_)=some _
 cases hj:j.fro b with
 | some o =>
  have:=(hR.ice b o hj).1
  rw [hb] at this; cases this; rfl
 | none =>
  show @ite _ (S b) (Classical.propDecidable _) _ none=_
  rw [if_pos (hS.resolve_right fun ⟨o,h⟩=>by rw [hj] at h; cases h),hb,froO_of ho]
theorem Inj.frz_some {j:Inj} {w:World} {S:Nat→Prop} {b:Nat} {o:Obj} (h:(j.frz w S).fro b=some o):j.fro b=some o∨(S b∧w.heap[b]? = some o∧IsFro o):=by
 have h:(match j.fro b with | some o=>some o | none=>@ite _ (S b) (Classical.propDecidable _) (froO w.heap[b]?) none)=some o:=h
 cases hj:j.fro b with
 | some o'=>rw [hj] at h; cases h; exact .inl rfl
 | none =>
  rw [hj] at h
  have h:@ite _ (S b) (Classical.propDecidable _) (froO w.heap[b]?) none=some o:=h
  by_cases hS:S b
  · rw [if_pos hS] at h
    exact .inr ⟨hS,froO_some h⟩
  · rw [if_neg hS] at h; cases h
theorem one_cells {v:AV} (h:v.one=true):v.cells = [v]:=by cases v <;> first | rfl | cases h
theorem allOne_mem:∀ {vs:List AV},allOne vs=true→∀ v∈vs,v.one=true:=by
 intro vs
 induction vs with
 | nil=>intro _ v hv; cases hv
 | cons x vs ih =>
  intro h v hv
  obtain ⟨h1,h2⟩:=(allOne_cons x vs).1 h
  rcases List.mem_cons.1 hv with rfl | hv
  · exact h1
  · exact ih h2 v hv
theorem elemV_spec {sz:Nat} {cs:List AV} (hl:cs.length=sz) (h1:allOne cs=true):(elemV sz cs).cells=cs∧((elemV sz cs).one=true∨elemV sz cs = .agg cs):=by
 unfold elemV
 split
 · split
   · rename_i c
     have:=allOne_mem h1 c (by simp)
     exact ⟨one_cells this,.inl this⟩
   · exact ⟨rfl,.inr rfl⟩
 · exact ⟨rfl,.inr rfl⟩
theorem allOne_take {vs:List AV} (h:allOne vs=true) (n:Nat):allOne (vs.take n)=true:=by
 induction vs generalizing n with
 | nil=>simpa using h
 | cons x vs ih =>
  obtain ⟨h1,h2⟩:=(allOne_cons x vs).1 h
  cases n with
  | zero=>rfl
  | succ n=>rw [List.take_succ_cons]; exact (allOne_cons _ _).2 ⟨h1,ih h2 n⟩
theorem allOne_drop {vs:List AV} (h:allOne vs=true) (n:Nat):allOne (vs.drop n)=true:=by
 induction vs generalizing n with
 | nil=>simpa using h
 | cons x vs ih =>
  obtain ⟨h1,h2⟩:=(allOne_cons x vs).1 h
  cases n with
  | zero=>exact h
  | succ n=>rw [List.drop_succ_cons]; exact ih h2 n
section
variable {j:Inj} {n:Nat} {w:World} {h:H} {S:Nat→Prop}
theorem chunks_VR {f:AV→Option (AV × List Pos)} {sz:Nat} {j':Inj} (hf:∀ v r,f v=some r→(∀ f∈r.2,∀ l,j f=some l→S l.blk)→(∀ c,VR j v c→VR j' r.1 c))
 (hc:∀ v r,f v=some r→r.1.cells.length=v.cells.length) (ho:∀ v r,f v=some r→v.one=true→r.1.one=true) (ha:∀ us r,f (.agg us)=some r→∃ us',r.1 = .agg us') :
 ∀ (m:Nat) (cs:List AV) (r:List AV × List Pos) (us:List Value),cs.length=m * sz→allOne cs=true→convs f (chunk sz m cs)=some r→(∀ f∈r.2,∀ l,j f=some l→S l.blk)→VRs j cs us →
  r.1.length=m∧(∀ x∈r.1,x.cells.length=sz)∧VRs j' (cellsOf r.1) us:=by
 intro m
 induction m with
 | zero =>
  intro cs r us hl _ hr _ hv
  cases hr
  have:cs = []:=List.length_eq_zero_iff.1 (by simpa using hl)
  subst this
  cases hv
  exact ⟨rfl,(by intro x hx; cases hx),.nil⟩
 | succ m ih =>
  intro cs r us hl h1 hr hS hv
  obtain ⟨v',p,vs',q,g1,g2,rfl⟩:=consC_some hr
  have hl1:(cs.take sz).length=sz:=by rw [List.length_take,hl,Nat.add_mul]; omega
  have hl2:(cs.drop sz).length=m * sz:=by rw [List.length_drop,hl,Nat.add_mul]; omega
  obtain ⟨e1,e2⟩:=elemV_spec hl1 (allOne_take h1 sz)
  obtain ⟨k1,k2,k3⟩:=ih _ _ _ hl2 (allOne_drop h1 sz) g2 (fun f hf=>hS f (by simp [hf])) (hv.drop sz)
  have hcl:=hc _ _ g1
  rw [e1,hl1] at hcl
  have hS1:∀ f∈p,∀ l,j f=some l→S l.blk:=fun f hf=>hS f (by simp [hf])
  have hhead:VRs j' v'.cells (us.take sz):=by
   have ht:=hv.take sz
   rcases e2 with e2 | e2
   · have g3:=ho _ _ g1 e2
     rw [one_cells g3]
     rw [←e1,one_cells e2] at ht
     generalize us.take sz=u at ht
     cases ht with
     | cons _ _ c _ hx hn =>
      cases hn
      exact .cons _ _ _ _ (hf _ _ g1 hS1 c hx) .nil
   · rw [e2] at g1
     obtain ⟨us',hus'⟩:=ha _ _ g1
     have hus':v' = .agg us':=hus'
     have:=hf _ _ g1 hS1 (.agg (us.take sz).toArray) (.agg _ _ (by simpa using ht))
     have this:VR j' v' _:=this
     rw [hus'] at this ⊢
     cases this with
     | agg _ _ hx=>exact (by simpa using hx:VRs j' us' (us.take sz))
  refine ⟨by simp [k1],fun x hx=>?_,?_⟩
  · rcases List.mem_cons.1 hx with rfl | hx
    · exact hcl
    · exact k2 x hx
  · rw [show cellsOf (v' :: vs',p++q).1=v'.cells++cellsOf vs' from cellsOf_cons _ _]
    have:=hhead.append k3
    rwa [List.take_append_drop] at this
theorem convs_VR {f:AV→Option (AV × List Pos)} {j':Inj} (hf:∀ v r,f v=some r→(∀ f∈r.2,∀ l,j f=some l→S l.blk)→(∀ c,VR j v c→VR j' r.1 c)) :
 ∀ (vs:List AV) (r:List AV × List Pos) (us:List Value),convs f vs=some r→(∀ f∈r.2,∀ l,j f=some l→S l.blk)→VRs j vs us→VRs j' r.1 us:=by
 intro vs
 induction vs with
 | nil=>intro r us hr _ hv; cases hr; cases hv; exact .nil
 | cons v vs ih =>
  intro r us hr hS hv
  obtain ⟨v',p,vs',q,g1,g2,rfl⟩:=consC_some hr
  cases hv with
  | cons _ _ c cs h1 h2=>exact .cons _ _ _ _ (hf _ _ g1 (fun f hf=>hS f (by simp [hf])) c h1) (ih _ _ g2 (fun f hf=>hS f (by simp [hf])) h2)
theorem conv_agg {h:H} {d:Nat} {us:List AV} {r:AV × List Pos} (hr:conv h d (.agg us)=some r):∃ us',r.1 = .agg us':=by
 cases d with
 | zero=>cases hr
 | succ d =>
  unfold conv at hr
  split at hr
  · cases hr; exact ⟨_,rfl⟩
  · obtain ⟨vs,q,h1,rfl⟩:=mapC_some (show mapC (fun xs=>AV.agg xs) [] (convs (conv h d) us)=some r from hr)
    exact ⟨_,rfl⟩
theorem conv_VR (hR:RB P j h.blk n w):∀ (d:Nat) (v:AV) (r:AV × List Pos),conv h d v=some r→(∀ f∈r.2,∀ l,j f=some l→S l.blk∨∃ o,j.fro l.blk=some o)→∀ c,VR j v c→VR (j.frz w S) r.1 c:=by
 intro d
 induction d with
 | zero=>intro v r hr; cases hr
 | succ d ih =>
  intro v r hr hS c hv
  unfold conv at hr
  split at hr
  · cases hr; exact hv.mono (Inj.le_frz j w S)
  · unfold convK at hr
    split at hr
    · cases hr; cases hv
      exact .lstE (some 0) none 0 (by intro c hc; cases hc; rfl) (fun _=>rfl)
    · cases hr; cases hv
      exact .lstE (some 0) _ _ (by intro c hc; cases hc; simp_all) (by intro e; simp_all)
    · rename_i f o len cap ex sz hpp hqq
      split at hr
      · rename_i cs hb
        split at hr
        · rename_i hone
          obtain ⟨xs,q,h1,rfl⟩:=mapC_some hr
          obtain ⟨ct,lo,hi,k1,k2,k3,k4⟩:=blkLdn_some hb
          obtain ⟨l,cc,e,fz,g1,g2,g3⟩:=hR.rd k1
          obtain ⟨q1,q2⟩:=ldFrom_spec g3 _ o cs k2 k3 k4
          have hlo:=g3.loB
          have hhi:=g3.hiB
          have hsz:=g3.size
          have hSb:=hS f (by simp) l g1
          obtain ⟨m1,m2,m3⟩:=chunks_VR (S:=fun b=>S b∨∃ o,j.fro b=some o) (j':=j.frz w S) (f:=conv h d) (sz:=sz) (fun v r hr hS c hc=>ih v r hr hS c hc) (fun v r=>conv_cells) (fun v r=>conv_one) (fun us r=>conv_agg) len cs (xs,q) _ q1 hone h1 (fun f hf=>hS f (by simp; exact .inr hf)) q2
          have m1:xs.length=len:=m1
          cases hv with
          | sl _ _ _ _ _ _ l' ad capc hj hcap hex hlen hloc =>
          rw [g1] at hj; cases hj
          rcases hloc with h0 | ⟨_,rfl,_⟩
          · have:len=0:=by omega
            subst this
            have:xs = []:=List.length_eq_zero_iff.1 m1
            subst this
            exact .lstE none (some ad) capc (by intro c hc; cases hc) (fun e=>by cases e)
          · subst m1
            have k3:o+xs.length * sz≤hi:=k3
            exact .lst none xs l.blk (o - l.base) capc sz cc e fz (Inj.frz_at hR hSb g2 (.inl ⟨_,_,_,rfl⟩)) (by omega) (by intro c hc; cases hc) m2 (by omega) m3
        · cases hr
      · cases hr
    · rename_i f o hpp
      split at hr
      · rename_i cs hb
        split at hr
        · obtain ⟨xs,q,h1,rfl⟩:=mapC_some hr
          obtain ⟨m,hb⟩:∃ m,blkLdn o m (h.blk f)=some cs:=by
           unfold tailOf at hb
           split at hb
           · rename_i hq; rw [hq]; exact ⟨_,hb⟩
           · rename_i hq; rw [hq]; exact ⟨_,hb⟩
           · cases hb
          obtain ⟨ct,lo,hi,k1,k2,k3,k4⟩:=blkLdn_some hb
          obtain ⟨l,cc,e,fz,g1,g2,g3⟩:=hR.rd k1
          obtain ⟨q1,q2⟩:=ldFrom_spec g3 _ o cs k2 k3 k4
          have hlo:=g3.loB
          have hhi:=g3.hiB
          have hsz:=g3.size
          have hSb:=hS f (by simp) l g1
          have m3:=convs_VR (S:=fun b=>S b∨∃ o,j.fro b=some o) (f:=conv h d) ih cs (xs,q) _ h1 (fun f hf=>hS f (by simp; exact .inr hf)) q2
          have m1:xs.length=m:=(convs_length h1).trans q1
          cases hv with
          | ptr _ _ l' hj hbase =>
          rw [g1] at hj; cases hj
          subst m1
          exact .lp xs l.blk (o - l.base) cc e fz (Inj.frz_at hR hSb g2 (.inl ⟨_,_,_,rfl⟩)) (by omega) m3
        · cases hr
      · cases hr
    · obtain ⟨xs,q,h1,rfl⟩:=mapC_some hr
      cases hv with
      | agg _ vs hx=>exact .agg _ _ (convs_VR (S:=fun b=>S b∨∃ o,j.fro b=some o) (f:=conv h d) ih _ _ _ h1 (fun f hf=>hS f (by simpa using hf)) hx)
    · obtain ⟨xs,q,h1,rfl⟩:=mapC_some hr
      cases hv with
      | tup _ vs hx=>exact .tup _ _ (convs_VR (S:=fun b=>S b∨∃ o,j.fro b=some o) (f:=conv h d) ih _ _ _ h1 (fun f hf=>hS f (by simpa using hf)) hx)
    · split at hr
      · rename_i g1 g2
        cases hr
        cases hv with
        | fn _ _ _ vf vc hx hy =>
        exact .fn _ _ _ _ _ (convs_VR (S:=fun b=>S b∨∃ o,j.fro b=some o) (f:=conv h d) ih _ _ _ g1 (fun f hf=>hS f (by simp; exact .inl hf)) hx) (convs_VR (S:=fun b=>S b∨∃ o,j.fro b=some o) (f:=conv h d) ih _ _ _ g2 (fun f hf=>hS f (by simp; exact .inr hf)) hy)
      · cases hr
    · rename_i f _
      obtain ⟨es,hb,p1,p2,rfl⟩:=convM_some hr
      cases hv with
      | map _ l hj =>
       have hSf:=hS f (by simp) l hj
       rcases hb with hb | hb
       · obtain ⟨l',g1,g2,g3,ces,g4,g5,g6⟩:=hR.blk f _ hb
         rw [g1] at hj; cases hj
         exact .fm _ _ l.blk ces (Inj.frz_at hR hSf g4 (.inr ⟨_,_,rfl⟩)) (g5.keys.1.mono (Inj.le_frz j w S)) (g5.keys.2.mono (Inj.le_frz j w S)) g6
       · obtain ⟨l',g1,g2,ces,g4,g5,g6⟩:=hR.blk f _ hb
         rw [g1] at hj; cases hj
         exact .fm _ _ l.blk ces ((Inj.le_frz j w S).fro _ _ g4) (g5.keys.1.mono (Inj.le_frz j w S)) (g5.keys.2.mono (Inj.le_frz j w S)) g6
    · cases hr
theorem icy_live {b b':Blk} (h:toIce (some b)=some b'):b.live∧(b'.live→False)∧toIce (some b')=none:=by
 cases b <;> first | (cases h; exact ⟨trivial,fun h=>h,rfl⟩) | cases h
def Frd (b:Option Blk):Prop:=(∃ b0 b1,b=some b0∧toIce (some b0)=some b1)∨(∃ c lo hi,b=some (.ice c lo hi))∨∃ es,b=some (.imap es)
theorem conv_rd {h:H}:∀ (d:Nat) (v:AV) (r:AV × List Pos),conv h d v=some r→∀ f∈r.2,Frd (h.blk f):=by
 have key:∀ {g:AV→Option (AV × List Pos)},(∀ v r,g v=some r→∀ f∈r.2,Frd (h.blk f))→∀ (vs:List AV) (r:List AV × List Pos),convs g vs=some r→∀ f∈r.2,Frd (h.blk f):=by
  intro g hg vs
  induction vs with
  | nil=>intro r hr f hf; cases hr; cases hf
  | cons v vs ih =>
   intro r hr f hf
   obtain ⟨v',p,vs',q,g1,g2,rfl⟩:=consC_some hr
   rcases List.mem_append.1 hf with hf | hf
   · exact hg _ _ g1 f hf
   · exact ih _ g2 f hf
 intro d
 induction d with
 | zero=>intro v r hr; cases hr
 | succ d ih =>
  intro v r hr
  unfold conv at hr
  split at hr
  · cases hr; intro f hf; cases hf
  · unfold convK at hr
    split at hr
    · cases hr; intro f hf; cases hf
    · cases hr; intro f hf; cases hf
    · rename_i f o len cap ex sz hpp hqq
      split at hr
      · rename_i cs hb
        split at hr
        · obtain ⟨xs,q,h1,rfl⟩:=mapC_some hr
          obtain ⟨ct,lo,hi,k1,k2,k3,k4⟩:=blkLdn_some hb
          intro g hg
          rcases List.mem_cons.1 hg with rfl | hg
          · rcases k1 with ⟨ty,k1⟩ | k1
            · exact .inl ⟨_,_,k1,rfl⟩
            · exact .inr (.inl ⟨_,_,_,k1⟩)
          · exact key ih _ _ h1 g hg
        · cases hr
      · cases hr
    · rename_i f o hpp
      split at hr
      · rename_i cs hb
        split at hr
        · obtain ⟨xs,q,h1,rfl⟩:=mapC_some hr
          intro g hg
          rcases List.mem_cons.1 hg with rfl | hg
          · unfold tailOf at hb
            split at hb
            · rename_i hq; exact .inl ⟨_,_,hq,rfl⟩
            · rename_i hq; exact .inr (.inl ⟨_,_,_,hq⟩)
            · cases hb
          · exact key ih _ _ h1 g hg
        · cases hr
      · cases hr
    · obtain ⟨xs,q,h1,rfl⟩:=mapC_some hr
      intro g hg
      exact key ih _ _ h1 g (by simpa using hg)
    · obtain ⟨xs,q,h1,rfl⟩:=mapC_some hr
      intro g hg
      exact key ih _ _ h1 g (by simpa using hg)
    · split at hr
      · rename_i g1 g2
        cases hr
        intro g hg
        rcases List.mem_append.1 hg with hg | hg
        · exact key ih _ _ g1 g hg
        · exact key ih _ _ g2 g hg
      · cases hr
    · rename_i f _
      obtain ⟨es,hb,p1,p2,rfl⟩:=convM_some hr
      intro g hg
      rw [List.mem_singleton] at hg; subst hg
      rcases hb with hb | hb
      · exact .inl ⟨_,_,hb,rfl⟩
      · exact .inr (.inr ⟨_,hb⟩)
    · cases hr
theorem convs_rd {h:H} {d:Nat}:∀ (vs:List AV) (r:List AV × List Pos),convs (conv h d) vs=some r→∀ f∈r.2,Frd (h.blk f):=by
 intro vs
 induction vs with
 | nil=>intro r hr f hf; cases hr; cases hf
 | cons v vs ih =>
  intro r hr f hf
  obtain ⟨v',p,vs',q,g1,g2,rfl⟩:=consC_some hr
  rcases List.mem_append.1 hf with hf | hf
  · exact conv_rd _ _ _ g1 f hf
  · exact ih _ g2 f hf
end
section
variable {j:Inj} {n:Nat} {w:World} {h:H}
theorem iceL_next:∀ (p:List Pos) (h:H),(iceL p h).next=h.next:=by
 intro p
 induction p with
 | nil=>intro h; rfl
 | cons f fs ih =>
  intro h
  show (iceL fs (iceK h f (toIce (h.blk f)))).next=h.next
  rw [ih]
  cases toIce (h.blk f) with
  | none=>rfl
  | some b=>exact H.next_put _ _ _
theorem iceL_blk:∀ (p:List Pos) (h:H) (g:Pos),(iceL p h).blk g=h.blk g∨(g∈p∧∃ b b',h.blk g=some b∧toIce (some b)=some b'∧(iceL p h).blk g=some b'):=by
 intro p
 induction p with
 | nil=>intro h g; exact .inl rfl
 | cons f fs ih =>
  intro h g
  have hd:(iceL (f :: fs) h)=iceL fs (iceK h f (toIce (h.blk f))):=rfl
  rw [hd]
  have hh:(iceK h f (toIce (h.blk f))).blk g=h.blk g∨(f=g∧∃ b b',h.blk g=some b∧toIce (some b)=some b'∧(iceK h f (toIce (h.blk f))).blk g=some b'):=by
   cases hb:toIce (h.blk f) with
   | none=>exact .inl rfl
   | some b =>
    show (h.put f b).blk g=_∨_
    by_cases e:f=g
    · subst e
      cases hq:h.blk f with
      | none=>rw [hq] at hb; cases hb
      | some b0 =>
       rw [hq] at hb
       refine .inr ⟨rfl,b0,b,rfl,hb,?_⟩
       show (h.put f _).blk f=_
       rw [H.blk_put,Bl.upd_same]
    · rw [H.blk_put,Bl.upd_ne _ _ e]; exact .inl rfl
  rcases ih (iceK h f (toIce (h.blk f))) g with h1 | ⟨h1,b,b',h2,h2',h3⟩
  · rcases hh with h4 | ⟨h4,b,b',h5,h5',h6⟩
    · exact .inl (h1.trans h4)
    · exact .inr ⟨by simp [h4],b,b',h5,h5',h1.trans h6⟩
  · rcases hh with h4 | ⟨h4,c,c',h5,h5',h6⟩
    · exact .inr ⟨by simp [h1],b,b',h4.symm.trans h2,h2',h3⟩
    · rw [h6] at h2; cases h2
      rw [(icy_live h5').2.2] at h2'; cases h2'
theorem iceL_in:∀ (p:List Pos) (h:H) (f:Pos),f∈p→∀ b b',h.blk f=some b→toIce (some b)=some b'→(iceL p h).blk f=some b':=by
 intro p
 induction p with
 | nil=>intro h f hf; cases hf
 | cons g gs ih =>
  intro h f hf b b' hb hbb
  show (iceL gs (iceK h g (toIce (h.blk g)))).blk f=_
  have hice:∀ h':H,h'.blk f=some b'→(iceL gs h').blk f=some b':=fun h' h1=>by
   rcases iceL_blk gs h' f with h2 | ⟨_,c,c',h3,h4,_⟩
   · rw [h2,h1]
   · rw [h1] at h3; cases h3
     rw [(icy_live hbb).2.2] at h4; cases h4
  by_cases e:g=f
  · subst e
    rw [hb,hbb]
    exact hice _ (by show (h.put g _).blk g=_; rw [H.blk_put,Bl.upd_same])
  · rcases List.mem_cons.1 hf with rfl | hf
    · exact absurd rfl e
    · refine ih _ _ hf b b' ?_ hbb
      cases hg:toIce (h.blk g) with
      | none=>exact hb
      | some b=>show (h.put g b).blk f=_; rw [H.blk_put,Bl.upd_ne _ _ e]; exact hb
theorem RB.iced (hR:RB P j h.blk n w) (p:List Pos) (hrd:∀ f∈p,Frd (h.blk f)) {S:Nat→Prop} (hS:∀ b,S b→∃ f∈p,∃ l,j f=some l∧l.blk=b) (hS':∀ f∈p,∀ l,j f=some l→S l.blk) :
 RB P (j.frz w S) (iceL p h).blk n w:=by
 have hlive:∀ g,Live (iceL p h).blk g→Live h.blk g∧(∀ b b',h.blk g=some b→toIce (some b)=some b'→g ∉ p):=fun g ⟨b,h1,h2⟩=>by
  rcases iceL_blk p h g with h3 | ⟨_,c,c',h4,h4',h5⟩
  · refine ⟨⟨b,h3 ▸ h1,h2⟩,fun c c' hb hbb hg=>?_⟩
    rw [iceL_in p h g hg c c' hb hbb] at h1
    cases h1; exact (icy_live hbb).2.1 h2
  · rw [h5] at h1; cases h1; exact ((icy_live h4').2.1 h2).elim
 have hold:∀ b o,j.fro b=some o→w.heap[b]? = some o∧(IsFro o)∧∀ f l,Live (iceL p h).blk f→(j.frz w S) f=some l→l.blk≠b :=
  fun b o h1=>⟨(hR.ice b o h1).1,(hR.ice b o h1).2.1,fun f l hf=>(hR.ice b o h1).2.2 f l (hlive f hf).1⟩
 refine ⟨hR.fresh,fun f b hb=>?_,fun f g lf lg hf hg=>hR.apart f g lf lg (hlive f hf).1 (hlive g hg).1,fun f l hf=>hR.far f l (hlive f hf).1,fun b o hb=>?_,hR.size,hR.inv⟩
 · rcases iceL_blk p h f with h1 | ⟨hp,b0,b1,h2,h2',h3⟩
   · rw [h1] at hb
     obtain ⟨l,g1,g2,g3⟩:=hR.blk f b hb
     exact ⟨l,g1,g2,g3.keep (Inj.le_frz j w S) rfl⟩
   · rw [h3] at hb; cases hb
     cases b0 with
     | cells c lo hi ty =>
      cases h2'
      obtain ⟨l,cs,e,fz,g1,g2,g3,g4,g5⟩:=hR.cells h2
      refine ⟨l,g1,fun hc=>hc.elim,cs,e,fz,Inj.frz_at hR (.inl (hS' f hp l g1)) g3 (.inl ⟨_,_,_,rfl⟩),g5.size,g5.loB,g5.hiB,fun i v a b ht=>?_⟩
      obtain ⟨cv,q1,q2⟩:=g5.at_ i v a b ht
      exact ⟨cv,q1,q2.mono (Inj.le_frz j w S)⟩
     | map es =>
      cases h2'
      obtain ⟨l,g1,g2,g3,ces,g4,g5,g6⟩:=hR.blk f _ h2
      exact ⟨l,g1,fun hc=>hc.elim,ces,Inj.frz_at hR (.inl (hS' f hp l g1)) g4 (.inr ⟨_,_,rfl⟩),g5.mono (Inj.le_frz j w S),g6⟩
     | _=>cases h2'
 · rcases Inj.frz_some hb with h1 | ⟨h1,h2,h3⟩
   · exact hold b o h1
   · obtain ⟨g,hg,l',k1,k2⟩:=hS b h1
     rcases hrd g hg with ⟨b0,b1,k3,k4⟩ | ⟨c,lo,hi,k3⟩ | ⟨es,k3⟩
     · refine ⟨h2,h3,fun f l hf hj e=>?_⟩
       have:=hR.apart f g l l' (hlive f hf).1 ⟨_,k3,(icy_live k4).1⟩ hj k1 (e.trans k2.symm)
       subst this
       exact (hlive f hf).2 _ _ k3 k4 hg
     · obtain ⟨l0,q1,_,cs,e,fz,q2,_⟩:=hR.blk g _ k3
       rw [k1] at q1; cases q1
       rw [k2] at q2
       have:=(hR.ice b _ q2).1
       rw [h2] at this; cases this
       exact hold b _ q2
     · obtain ⟨l0,q1,_,ces,q2,_⟩:=hR.blk g _ k3
       rw [k1] at q1; cases q1
       rw [k2] at q2
       have:=(hR.ice b _ q2).1
       rw [h2] at this; cases this
       exact hold b _ q2
theorem Ext.iced {j:Inj} {w:World} {h:H} (p:List Pos) {S:Nat→Prop} (hS:∀ b,S b→∃ f∈p,∃ l,j f=some l∧l.blk=b) (hrd:∀ f∈p,Frd (h.blk f)) {n:Nat} (hR:RB P j h.blk n w):Ext j h.blk w (j.frz w S) (iceL p h).blk w:=by
 have hl:∀ f,Live (iceL p h).blk f→Live h.blk f:=fun f ⟨b,k1,k2⟩=>by
  rcases iceL_blk p h f with k3 | ⟨_,c,c',k4,k4',_⟩
  · exact ⟨b,k3 ▸ k1,k2⟩
  · exact ⟨_,k4,(icy_live k4').1⟩
 refine ⟨Inj.le_frz j w S,Nat.le_refl _,fun _ _ _=>rfl,fun f l hf hj=>.inr ⟨f,l,hl f hf,hj,rfl⟩,rfl,rfl,rfl,fun _ h _=>h,fun f hf=>?_,fun b o hb=>?_⟩
 · rcases iceL_blk p h f with k3 | ⟨_,c,c',k4,_,k5⟩
   · rw [←k3]; exact hf
   · rw [k5] at hf; cases hf
 · rcases Inj.frz_some hb with k | ⟨k1,k2,k3⟩
   · exact .inl k
   · obtain ⟨f,hf,l,r1,r2⟩:=hS b k1
     rcases hrd f hf with ⟨b0,b1,r3,r4⟩ | ⟨c,lo,hi,r3⟩ | ⟨es,r3⟩
     · exact .inr (.inr ⟨f,l,⟨_,r3,(icy_live r4).1⟩,r1,r2⟩)
     · obtain ⟨l0,s1,_,cs,e,fz,s2,_⟩:=hR.blk f _ r3
       rw [r1] at s1; cases s1
       rw [r2] at s2
       have:=(hR.ice b _ s2).1
       rw [k2] at this; cases this
       exact .inl s2
     · obtain ⟨l0,s1,_,ces,s2,_⟩:=hR.blk f _ r3
       rw [r1] at s1; cases s1
       rw [r2] at s2
       have:=(hR.ice b _ s2).1
       rw [k2] at this; cases this
       exact .inl s2
end
end Go.Ev
namespace Go.Ev
variable {P:Env}
section
variable {o:Oper} {a:Act} {w:World} {j:Inj} {n N nt:Nat} {tm:Tm} {h h':H} {v:AV}
def AppOk (P:Env) (run:Value→Result Value) (w:World) (j:Inj) (bl:Bl) (v:AV) (bl':Bl) (N:Nat) (s:Value):Prop :=
 ∃ cv w',run s = .ok cv w'∧∃ j',VR j' v cv∧RB P j' bl' N w'∧Ext j bl w j' bl' w'
theorem app_spec {sz b m:Nat} {s:AV} {sv:Value} {xs:List AV} {news:Array Value} {z:Value} {e:TypeId} (run:Value→Result Value)
 (hin:∀ base sLen sCap w',sv = .slice base sLen sCap→sLen+m≤sCap→(∀ ad,base=some ad→(storeCells (ad.add (sLen * sz)) news.toList).run P w = .ok () w')→(base=none→w'=w) →
  run sv = .ok (.slice base (sLen+m) sCap) w')
 (hgrow:∀ base sLen sCap old,sv = .slice base sLen sCap→sCap < sLen+m→(sLen+m) * (b+1)≤1000000000→(Builtin.firstCells sz sLen (.slice base sLen sCap)).run P { w with drawn:=w.drawn+1 } = .ok old { w with drawn:=w.drawn+1 } →
  run sv = .ok (.slice (some ⟨w.heap.size,0,none⟩) (sLen+m) (grownCap w (sLen+m) sCap e)) { w with drawn:=w.drawn+1,heap:=w.heap.push (.cells (old++news++Builtin.zeroCells z.cells (grownCap w (sLen+m) sCap e - (sLen+m))) e) })
 (hzs:z.cells.size=sz) (hrel:VRs j xs news.toList) (hxs:xs.length=m * sz)
 (hR:RB P j h.blk n w) (hf:j h.next=none) (hN:n≤N) (hN':h'.next.toN≤N) (hs:VR j s sv) (hr:appendA e h sz b s m xs = .val v h'):AppOk P run w j h.blk v h'.blk N sv:=by
 have hl:=hrel.length
 simp at hl
 unfold appendA at hr
 split at hr
 ·
  cases hs
  split at hr
  · cases hr
    have hx0:news.toList = []:=by
     have:news.size=0:=by omega
     apply List.length_eq_zero_iff.1; simpa using this
    exact ⟨_,w,hin none 0 0 w rfl (by omega) (by intro ad e; cases e) (fun _=>rfl),j,.nils,hR.sub (fun _ _ h=>h) hN,Ext.refl j _ w⟩
  · rename_i m'
    have hxs:xs.length=(m'+1) * sz:=hxs
    have hl:news.size=xs.length:=hl
    split at hr
    · rename_i hb
      cases hr
      have hb':(m'+1) * (b+1)≤1000000000:=Nat.le_of_ble_eq_true hb
      have hrun:=hgrow none 0 0 #[] rfl (by omega) (by simpa using hb') rfl
      have hg:0+(m'+1)≤grownCap w (0+(m'+1)) 0 e:=by simp [grownCap,Question.cut]
      generalize grownCap w (0+(m'+1)) 0 e=g at hrun hg
      have hrow:(#[]++news++Builtin.zeroCells z.cells (g - (0+(m'+1))))=(news.toList++(Builtin.zeroCells z.cells (g - (0+(m'+1)))).toList).toArray:=by
       apply Array.ext'; simp
      rw [hrow] at hrun
      rw [H.blk_add]
      have hle:=Inj.le_upd (j:=j) (f:=h.next) ⟨w.heap.size,0,news.toList.length+(Builtin.zeroCells z.cells (g - (0+(m'+1)))).toList.length⟩ hf
      obtain ⟨h1,h2⟩:=RB.alloc (hR.drawn (w.drawn+1)) h.next hf N hN (H.add_toN _ _ hN') (.cells (news.toList++(Builtin.zeroCells z.cells (g - (0+(m'+1)))).toList).toArray e) (newCells (.row e) xs) 0
       (news.toList.length+(Builtin.zeroCells z.cells (g - (0+(m'+1)))).toList.length) (newRow_BlkR (hrel.mono hle) e (w:={ w with drawn:=w.drawn+1 }))
      refine ⟨_,_,hrun,_,?_,h1,(Ext.drawn _).trans h2⟩
      have hszs:(g - (0+(m'+1))) * sz+(m'+1) * sz=g * sz:=by rw [←Nat.add_mul]; congr 1; omega
      have hcs:0+g * sz≤news.toList.length+(Builtin.zeroCells z.cells (g - (0+(m'+1)))).toList.length:=by
       simp only [Array.length_toList,zeroCells_size,hzs]
       omega
      have hv:=VR.sl (j:=j.upd h.next ⟨w.heap.size,0,news.toList.length+(Builtin.zeroCells z.cells (g - (0+(m'+1)))).toList.length⟩) h.next 0 (m'+1) (m'+1) false sz
       ⟨w.heap.size,0,news.toList.length+(Builtin.zeroCells z.cells (g - (0+(m'+1)))).toList.length⟩ ⟨w.heap.size,0,none⟩ g (Inj.upd_same _ _ _) (by omega) (fun e=>by cases e) (by omega) (.inr ⟨Nat.le_refl _,rfl,hcs⟩)
      simp only [Nat.zero_add] at hv ⊢
      exact hv
    · cases hr
 ·
  obtain ⟨p,rfl⟩:∃ p,sv = .slice p 0 0:=by
   cases hs with
   | lstE _ p c hex _=>exact ⟨p,by rw [hex 0 rfl]⟩
   | lst _ _ _ _ c _ _ _ _ _ _ hex=>exact ⟨_,by rw [hex 0 rfl]; rfl⟩
  split at hr
  · cases hr
    have hx0:news.toList = []:=by
     have:news.size=0:=by omega
     apply List.length_eq_zero_iff.1; simpa using this
    exact ⟨_,w,hin p 0 0 w rfl (by omega) (fun ad e=>by rw [hx0]; rfl) (fun _=>rfl),j,.lstE (some 0) p 0 (fun _ e=>by cases e; rfl) (fun _=>rfl),hR.sub (fun _ _ h=>h) hN,Ext.refl j _ w⟩
  · rename_i m'
    have hxs:xs.length=(m'+1) * sz:=hxs
    have hl:news.size=xs.length:=hl
    split at hr
    · rename_i hb
      cases hr
      have hb':(m'+1) * (b+1)≤1000000000:=Nat.le_of_ble_eq_true hb
      have hrun:=hgrow p 0 0 #[] rfl (by omega) (by simpa using hb') (by cases p <;> simp [Builtin.firstCells,loadCells,loadCellsFrom])
      have hg:0+(m'+1)≤grownCap w (0+(m'+1)) 0 e:=by simp [grownCap,Question.cut]
      generalize grownCap w (0+(m'+1)) 0 e=g at hrun hg
      have hrow:(#[]++news++Builtin.zeroCells z.cells (g - (0+(m'+1))))=(news.toList++(Builtin.zeroCells z.cells (g - (0+(m'+1)))).toList).toArray:=by
       apply Array.ext'; simp
      rw [hrow] at hrun
      rw [H.blk_add]
      have hle:=Inj.le_upd (j:=j) (f:=h.next) ⟨w.heap.size,0,news.toList.length+(Builtin.zeroCells z.cells (g - (0+(m'+1)))).toList.length⟩ hf
      obtain ⟨h1,h2⟩:=RB.alloc (hR.drawn (w.drawn+1)) h.next hf N hN (H.add_toN _ _ hN') (.cells (news.toList++(Builtin.zeroCells z.cells (g - (0+(m'+1)))).toList).toArray e) (newCells (.row e) xs) 0
       (news.toList.length+(Builtin.zeroCells z.cells (g - (0+(m'+1)))).toList.length) (newRow_BlkR (hrel.mono hle) e (w:={ w with drawn:=w.drawn+1 }))
      refine ⟨_,_,hrun,_,?_,h1,(Ext.drawn _).trans h2⟩
      have hszs:(g - (0+(m'+1))) * sz+(m'+1) * sz=g * sz:=by rw [←Nat.add_mul]; congr 1; omega
      have hcs:0+g * sz≤news.toList.length+(Builtin.zeroCells z.cells (g - (0+(m'+1)))).toList.length:=by
       simp only [Array.length_toList,zeroCells_size,hzs]
       omega
      have hv:=VR.sl (j:=j.upd h.next ⟨w.heap.size,0,news.toList.length+(Builtin.zeroCells z.cells (g - (0+(m'+1)))).toList.length⟩) h.next 0 (m'+1) (m'+1) false sz
       ⟨w.heap.size,0,news.toList.length+(Builtin.zeroCells z.cells (g - (0+(m'+1)))).toList.length⟩ ⟨w.heap.size,0,none⟩ g (Inj.upd_same _ _ _) (by omega) (fun e=>by cases e) (by omega) (.inr ⟨Nat.le_refl _,rfl,hcs⟩)
      simp only [Nat.zero_add] at hv ⊢
      exact hv
    · cases hr
 · rename_i f k len cap ex sz'
   split at hr
   · cases hr
   · rename_i hsz
     have hsz':=Nat.eq_of_beq_eq_true hsz
     subst hsz'
     have hs0:=hs
     cases hs with
     | sl _ _ _ _ _ _ l ad capc hj hcap hex hlen hloc =>
     split at hr
     ·
      cases hr
      refine ⟨_,w,hin (some ad) len capc w rfl (by omega) (fun ad' e=>?_) (fun e=>by cases e),j,hs0,hR.sub (fun _ _ h=>h) hN,Ext.refl j _ w⟩
      have:news=#[]:=by apply Array.eq_empty_of_size_eq_zero; omega
      rw [this]; rfl
     · rename_i m'
       have hxs:xs.length=(m'+1) * sz:=hxs
       split at hr
       · rename_i hb
         have hb':(len+(m'+1)) * (b+1)≤1000000000:=Nat.le_of_ble_eq_true hb
         split at hr
         · rename_i c lo hi ty hblk
           obtain ⟨l',cs,te,fz,h5,h6,h7,h8,h9⟩:=hR.cells hblk
           rw [h5] at hj; cases hj
           unfold appK at hr
           split at hr
           · cases hr
           · rename_i hcond
             obtain ⟨hone,hcond2⟩:=and_true hcond
             obtain ⟨hlo0,hhi0⟩:=and_true hcond2
             have hlo:lo≤k:=Nat.le_of_ble_eq_true hlo0
             have hhi:k+len * sz≤hi:=Nat.le_of_ble_eq_true hhi0
             have hmul:(len+(m'+1)) * sz=len * sz+(m'+1) * sz:=Nat.add_mul _ _ _
             have hhiB:=h9.hiB
             have grow:∀ ty',(∀ l,TyOk ty' e (0,0) l)→capc < len+(m'+1)→∀ bl0 (w0:World),w0={ w with drawn:=w.drawn+1 }→RB P j bl0 n w0→∃ cv w',run (.slice (some ad) len capc) = .ok cv w'∧∃ j',
              VR j' (.sl h.next k (len+(m'+1)) (len+(m'+1)) false sz) cv∧((h.next.toN < N)→RB P j' (bl0.upd h.next (.cells (setFrom xs c (k+len * sz)) k (k+(len+(m'+1)) * sz) ty')) N w' ∧
               Ext j bl0 w0 j' (bl0.upd h.next (.cells (setFrom xs c (k+len * sz)) k (k+(len+(m'+1)) * sz) ty')) w'):=by
              intro ty' hty' hlt bl0 w0 hw0 hR0
              subst hw0
              have hrun:=hgrow (some ad) len capc _ rfl hlt hb' (old_spec h7 h9 hlo hhi hlen hloc _)
              have hg:len+(m'+1)≤grownCap w (len+(m'+1)) capc e:=by simp [grownCap,Question.cut]
              generalize grownCap w (len+(m'+1)) capc e=g at hrun hg
              have hat:=grown_at (rest:=Builtin.zeroCells z.cells (g - (len+(m'+1)))) (blk:=w.heap.size) h9 hlo hhi hrel hxs
              generalize hrow:(cs.extract (k - l.base) (k - l.base+len * sz)++news++Builtin.zeroCells z.cells (g - (len+(m'+1))))=row at hrun hat
              have hle:=Inj.le_upd (j:=j) (f:=h.next) ⟨w.heap.size,k,row.size⟩ hf
              refine ⟨_,_,hrun,j.upd h.next ⟨w.heap.size,k,row.size⟩,?_,fun hfN=>?_⟩
              · have hszs:(g - (len+(m'+1))) * sz+(len+(m'+1)) * sz=g * sz:=by rw [←Nat.add_mul]; congr 1; omega
                refine .sl _ k _ _ false sz ⟨w.heap.size,k,row.size⟩ _ g (Inj.upd_same _ _ _) hg (fun e=>by cases e) hg (.inr ⟨Nat.le_refl _,by simp,?_⟩)
                have hsz9:=h9.size
                have hloB:=h9.loB
                have hexs:(cs.extract (k - l.base) (k - l.base+len * sz)).size=len * sz:=by simp; omega
                rw [←hrow]
                simp only [Array.size_append,hexs,zeroCells_size,hzs]
                omega
              · refine RB.alloc hR0 h.next hf N hN hfN (.cells row e) _ k row.size ?_
                rw [BlkR.cells_iff]
                refine ⟨row,e,(0,0),heap_push_new _ _,.inl (Nat.le_refl _),?_⟩
                exact ⟨⟨hat.loB,hat.hiB,hat.size,fun i v a b ht=>let ⟨cv,x,y⟩:=hat.at_ i v a b ht; ⟨cv,x,y.mono hle⟩⟩,hty' _⟩
             split at hr
             ·
              rename_i hroom
              have hroom':len+(m'+1)≤cap:=Nat.le_of_ble_eq_true hroom
              cases hr
              have hloc':=hloc.resolve_left (by omega)
              obtain ⟨g1,rfl,g3⟩:=hloc'
              have hcm:(len+(m'+1)) * sz≤capc * sz:=Nat.mul_le_mul_right _ (by omega)
              obtain ⟨l2,w',q1,q2,q3,q4,q5⟩:=store_spec (hi':=Nat.max hi (k+(len+(m'+1)) * sz)) (o:=k+len * sz) hR hblk hrel hone (by omega) (by rw [hxs]; exact Nat.le_trans (by omega) (Nat.le_max_right _ _))
               (fun l3 hl3=>by rw [h5] at hl3; cases hl3; exact Nat.max_le.2 ⟨hhiB,by omega⟩) (fun i hi'=>by simp only [Nat.max_def] at hi'; split at hi' <;> omega)
              rw [h5] at q1; cases q1
              rw [H.blk_put]
              refine ⟨_,w',hin _ len capc w' rfl (by omega) (fun ad' e=>?_) (fun e=>by cases e),j,?_,q4.sub (fun _ _ h=>h) hN,q5⟩
              · cases e
                rw [Addr.add_none]
                exact q3 _ 0 (by omega)
              · exact .sl _ k (len+(m'+1)) _ ex sz l _ capc h5 hcap hex (by omega) (.inr ⟨g1,rfl,g3⟩)
             · rename_i hroom
               have hroom':¬ len+(m'+1)≤cap:=fun hle=>by
                have:Nat.ble (Nat.add len (Nat.succ m')) cap=true:=Nat.ble_eq_true_of_le hle
                rw [hroom] at this; cases this
               split at hr
               ·
                cases hr
                rename_i hext
                have hce:=hex rfl
                obtain ⟨cv,w',q1,j',q2,q3⟩:=grow (.row e) (fun _=>rfl) (by omega) h.blk _ rfl (hR.drawn _)
                obtain ⟨q4,q5⟩:=q3 (H.add_toN _ _ hN')
                rw [H.blk_add]
                exact ⟨cv,w',q1,j',q2,q4,(Ext.drawn _).trans q5⟩
               ·
                cases hr
                have hblk':((h.put f .dead).add (.cells (setFrom xs c (Nat.add k (Nat.mul len sz))) k (Nat.add k (Nat.mul (Nat.add len (Nat.succ m')) sz)) (joinTy e ty))).blk =
                 Bl.upd (Bl.upd h.blk f .dead) h.next (.cells (setFrom xs c (k+len * sz)) k (k+(len+(m'+1)) * sz) (joinTy e ty)):=by
                 rw [H.blk_add,H.blk_put,H.next_put]; rfl
                rw [hblk']
                have hfN:h.next.toN < N:=by have:=H.add_toN _ _ hN'; rwa [H.next_put] at this
                by_cases hin':len+(m'+1)≤capc
                ·
                 have hloc':=hloc.resolve_left (by omega)
                 obtain ⟨g1,rfl,g3⟩:=hloc'
                 have hcm:(len+(m'+1)) * sz≤capc * sz:=Nat.mul_le_mul_right _ hin'
                 obtain ⟨l2,w',q1,q2,q3,q4,q5⟩:=store_spec (hi':=k+(len+(m'+1)) * sz) (lo:=lo) (hi:=hi) (o:=k+len * sz) hR hblk hrel hone (by omega) (by rw [hxs]; omega)
                  (fun l3 hl3=>by rw [h5] at hl3; cases hl3; omega) (fun i hi=>by omega)
                 rw [h5] at q1; cases q1
                 obtain ⟨r1,r2⟩:=RB.rename q4 (f:=f) (f':=h.next) (Bl.upd_same _ _ _) h5 hf hlo (Nat.le_refl _) (fun t fz ht=>joinTy_old ht) hN hfN
                 have hbl:Bl.upd (Bl.upd (Bl.upd h.blk f (.cells (setFrom xs c (k+len * sz)) lo (k+(len+(m'+1)) * sz) ty)) f .dead) h.next (.cells (setFrom xs c (k+len * sz)) k (k+(len+(m'+1)) * sz) (joinTy e ty)) =
                  Bl.upd (Bl.upd h.blk f .dead) h.next (.cells (setFrom xs c (k+len * sz)) k (k+(len+(m'+1)) * sz) (joinTy e ty)):=by
                  funext g
                  simp only [Bl.upd]
                  split
                  · rfl
                  · split <;> rfl
                 rw [hbl] at r1 r2
                 refine ⟨_,w',hin _ len capc w' rfl hin' (fun ad' e=>?_) (fun e=>by cases e),_,?_,r1,q5.trans r2⟩
                 · cases e
                   rw [Addr.add_none]
                   exact q3 _ 0 (by omega)
                 · exact .sl _ k _ _ false sz l _ capc (Inj.upd_same _ _ _) hin' (fun e=>by cases e) hin' (.inr ⟨g1,rfl,g3⟩)
                ·
                 obtain ⟨k1,k2⟩:=RB.kill (hR.drawn (w.drawn+1)) f h5
                 obtain ⟨cv,w',q1,j',q2,q3⟩:=grow (joinTy e ty) (fun _=>joinTy_new) (by omega) (Bl.upd h.blk f .dead) _ rfl k1
                 obtain ⟨q4,q5⟩:=q3 hfN
                 exact ⟨cv,w',q1,j',q2,q4,((Ext.drawn _).trans k2).trans q5⟩
         · cases hr
       · cases hr
 · cases hr
end
end Go.Ev
namespace Go.Ev
variable {P:Env}
section
variable {o:Oper} {a:Act} {w:World} {j:Inj} {n N nt:Nat} {tm:Tm} {h h':H} {v:AV}
theorem zeroCells_eq (z:Array Value) (m:Nat):Builtin.zeroCells z m=(Array.range (m * z.size)).map fun i=>z[i % z.size]!:=rfl
theorem s_app {c:Call} {x y:Operand} {e:TypeId} {td:TypeDesc} {zs:List AV} {sz b:Nat} (hT:TmR j nt tm a.tmps) (hR:RB P j h.blk n w) (hf:j h.next=none) (hN:n≤N) (hN':h'.next.toN≤N)
 (hop:o.op = .call c) (hc:c.callee = .builtin .append) (ha:c.args.toList = [x,y]) (ht:(c.argTypes[0]?).bind P.underlying=some (.slice e)) (hx:(c.argTypes[1]?).bind P.underlying=some td)
 (hz:∀ k,td≠.int k) (hs:sizeOf? P e=some sz) (hb:bytesOf? P e=some b) (hzc:zeroCellsOf P e=some zs) (hzl:zs.length=sz) (hr:r_app e sz b (cA x) (cA y) tm h = .val v h'):OpOk P o a w j h.blk v h'.blk N:=by
 obtain ⟨st,h0,hst⟩:=Option.bind_eq_some_iff.1 ht
 obtain ⟨xt,h1,hxt⟩:=Option.bind_eq_some_iff.1 hx
 have hargs:c.args=#[x,y]:=by apply Array.ext'; simpa using ha
 unfold r_app at hr
 split at hr
 · rename_i m xs he
   obtain ⟨news,g1,g2,g3,g4⟩:=elems_spec hR he (evA hT y)
   have hz0:∃ z:Value,∀ d hp,(zeroValue e).run P { w with drawn:=d,heap:=hp } = .ok z { w with drawn:=d,heap:=hp }∧∀ j,VRs j zs z.cells.toList:=by
    unfold zeroCellsOf zeroOf at hzc
    obtain ⟨z,h1,h2⟩:=q_zeroCells (w:=w) (t:=e) (vs:=zs) hzc
    refine ⟨z,fun d hp=>⟨?_,h2⟩⟩
    obtain ⟨z',h3,h4⟩:=q_zeroCells (w:={ w with drawn:=d,heap:=hp }) (t:=e) (vs:=zs) hzc
    simp only [zeroValue,Sem.run_bind] at h1 h3 ⊢
    cases hi:P.info? e with
    | none=>simp [typeInfo,program,Sem.run,hi] at h1
    | some i =>
     simp only [q_typeInfo hi,Result.andThen_ok] at h1 h3 ⊢
     cases hiz:i.zero with
     | none=>simp [hiz] at h1
     | some z0=>simp [hiz] at h1 ⊢; exact h1
   obtain ⟨z,hzr⟩:=hz0
   have hzsz:z.cells.size=sz:=by
    have:=((hzr 0 w.heap).2 j).length
    rw [←hzl]; simpa using this
   have hz1:(zeroValue e).run P { w with drawn:=w.drawn+1 } = .ok z { w with drawn:=w.drawn+1 }:=(hzr (w.drawn+1) w.heap).1
   have happ:∀ (j0:Inj) (h0':H) (xs0:List AV),RB P j0 h0'.blk n w→j0 h0'.next=none→VRs j0 xs0 news.toList→xs0.length=m * sz→VR j0 ((cA x).ev tm) (a.eval x)→appendA e h0' sz b ((cA x).ev tm) m xs0 = .val v h' →
    AppOk P (fun sv=>(Builtin.append_ c.argTypes o.type #[sv,a.eval y]).run P w) w j0 h0'.blk v h'.blk N (a.eval x):=by
    intro j0 h0' xs0 hR0 hf0 hv0 hl0 hs0 hr0
    refine app_spec (e:=e) (z:=z) (sz:=sz) (b:=b) (m:=m) (news:=news) (xs:=xs0) _ ?_ ?_ hzsz hv0 hl0 hR0 hf0 hN hN' hs0 hr0
    · intro base sLen sCap w' hsv hle hst' hnil
      show (Builtin.append_ c.argTypes o.type #[_,a.eval y]).run P w=_
      rw [hsv]
      exact q_app_in h0 h1 hst hxt hz hs g1 (by simpa using g2 w.drawn) hle hst' hnil
    · intro base sLen sCap old hsv hle hbig hold
      show (Builtin.append_ c.argTypes o.type #[_,a.eval y]).run P w=_
      rw [hsv]
      exact q_app_new h0 h1 hst hxt hz hs hb g1 (g2 _) hold hz1 hle hbig
   have happ:=happ j h xs hR hf g3 g4 (evA hT x) hr
   obtain ⟨cv,w',k1,j',k2,k3,k4⟩:=happ
   refine ⟨cv,w',_,?_,.inl rfl,j',k2,k3,k4⟩
   rw [q_call hop hc hargs rfl]
   refine run_v ?_
   simpa using k1
 · cases hr
theorem q_appz_new {ats:Array TypeId} {ty st xt e:TypeId} {k:IntKind} {base:Option Addr} {sLen sCap sz b m:Nat} {ki:IntKind} {old:Array Value} {z:Value} (h0:ats[0]? = some st) (h1:ats[1]? = some xt) (hst:P.underlying st=some (.slice e))
 (hxt:P.underlying xt=some (.int k)) (hsz:sizeOf? P e=some sz) (hb:bytesOf? P e=some b)
 (hold:(Builtin.firstCells sz sLen (.slice base sLen sCap)).run P { w with drawn:=w.drawn+1 } = .ok old { w with drawn:=w.drawn+1 })
 (hzero:(zeroValue e).run P { w with drawn:=w.drawn+1 } = .ok z { w with drawn:=w.drawn+1 }) (hzsz:z.cells.size=sz)
 (hle:sCap < sLen+m) (hbig:(sLen+m) * (b+1)≤1000000000) :
 (Builtin.append_ ats ty #[.slice base sLen sCap,.int ki (m:Int)]).run P w = .ok (.slice (some ⟨w.heap.size,0,none⟩) (sLen+m) (grownCap w (sLen+m) sCap e))
  { w with drawn:=w.drawn+1,heap:=w.heap.push (.cells (old++Builtin.zeroCells z.cells m++Builtin.zeroCells z.cells (grownCap w (sLen+m) sCap e - (sLen+m))) e) }:=by
 obtain ⟨i,hi1,hi2⟩:=bytesOf?_info hb
 have hbig1:sLen+m≤1000000000:=Nat.le_trans (Nat.le_mul_of_pos_right _ (by omega)) hbig
 have hcap:¬ Builtin.nextslicecap (sLen+m) sCap * i.bytes > 2 ^ 48:=by
  rw [hi2]
  have h2:=nextslicecap_le hle
  have h3:Builtin.nextslicecap (sLen+m) sCap * b≤(2 * (sLen+m)+1000) * b:=Nat.mul_le_mul_right _ h2
  have h4:(2 * (sLen+m)+1000) * b≤1002 * ((sLen+m) * (b+1)):=by
   have:2 * (sLen+m)+1000≤1002 * (sLen+m):=by omega
   calc (2 * (sLen+m)+1000) * b≤1002 * (sLen+m) * b:=Nat.mul_le_mul_right _ this
    _=1002 * ((sLen+m) * b):=Nat.mul_assoc _ _ _
    _≤1002 * ((sLen+m) * (b+1)):=Nat.mul_le_mul_left _ (Nat.mul_le_mul_left _ (by omega))
  omega
 have hmb:m * (b+1)≤1000000000:=Nat.le_trans (Nat.mul_le_mul_right _ (by omega)) hbig
 have hw:IntKind.i64.wrap (m:Int)=m:=wrap64_small (by omega) (by omega)
 have hn2:¬ ((m:Int) * (i.bytes:Int) > 2 ^ 48):=by
  rw [hi2]
  have:m * b≤m * (b+1):=Nat.mul_le_mul_left _ (by omega)
  have h5:((m * b:Nat):Int)≤1000000000:=by omega
  rw [←Int.natCast_mul]
  omega
 have hneg:¬ ((m:Int) < 0):=by omega
 simp only [Builtin.append_,h0,h1]
 simp only [List.getElem?_toArray,List.getElem?_cons_zero,List.getElem?_cons_succ,Sem.run_bind,q_underlying hst,Result.andThen_ok,q_sizeOf hsz,q_underlying hxt,Sem.run_pure]
 have hno:¬ (((sLen+m:Nat):Int) > IntKind.i64.max∧(True∨i.bytes=0)):=by simp [IntKind.max,IntKind.signed,IntKind.bits]; omega
 simp only [if_true,Sem.run_bind,asInt,asIntOf,Sem.run_pure,Result.andThen_ok,hw,if_neg hneg,q_typeInfo hi1,if_neg hn2,Int.toNat_natCast,if_neg (show ¬ sLen+m≤sCap by omega)]
 rw [if_neg hno]
 simp only [Sem.run_bind,q_typeInfo hi1,Result.andThen_ok]
 rw [if_neg hcap]
 simp only [Sem.run_bind,q_choose_cap,Result.andThen_ok,q_typeInfo hi1,q_askRoom,hold,Sem.run_pure]
 by_cases hmz:m * sz=0
 · have he:Builtin.zeroCells z.cells m=#[]:=by
    apply Array.eq_empty_of_size_eq_zero; rw [zeroCells_size,hzsz]; exact hmz
   have hzero':(zeroValue e).run P w.drew = .ok z w.drew:=hzero
   simp [hmz,hzero',he]
   rfl
 · have hzero':(zeroValue e).run P w.drew = .ok z w.drew:=hzero
   simp [hmz,hzero']
   rfl
theorem zeroAt {e:TypeId} {zs:List AV} (hzc:zeroCellsOf P e=some zs) (w:World):∃ z:Value,∀ d hp,(zeroValue e).run P { w with drawn:=d,heap:=hp } = .ok z { w with drawn:=d,heap:=hp }∧∀ j,VRs j zs z.cells.toList:=by
 obtain ⟨z,h1,h2⟩:=q_zeroCells (w:=w) (t:=e) (vs:=zs) hzc
 refine ⟨z,fun d hp=>⟨?_,h2⟩⟩
 simp only [zeroValue,Sem.run_bind] at h1 ⊢
 cases hi:P.info? e with
 | none=>simp [typeInfo,program,Sem.run,hi] at h1
 | some i =>
  simp only [q_typeInfo hi,Result.andThen_ok] at h1 ⊢
  cases hiz:i.zero with
  | none=>simp [hiz] at h1
  | some z0=>simp [hiz] at h1 ⊢; exact h1
theorem s_appz {c:Call} {x y:Operand} {e:TypeId} {k:IntKind} {zs:List AV} {sz b:Nat} (hT:TmR j nt tm a.tmps) (hR:RB P j h.blk n w) (hf:j h.next=none) (hN:n≤N) (hN':h'.next.toN≤N)
 (hop:o.op = .call c) (hc:c.callee = .builtin .append) (ha:c.args.toList = [x,y]) (ht:(c.argTypes[0]?).bind P.underlying=some (.slice e)) (hx:(c.argTypes[1]?).bind P.underlying=some (.int k))
 (hs:sizeOf? P e=some sz) (hb:bytesOf? P e=some b) (hzc:zeroCellsOf P e=some zs) (hzl:zs.length=sz) (hr:r_appz e sz b zs (cA x) (cA y) tm h = .val v h'):OpOk P o a w j h.blk v h'.blk N:=by
 obtain ⟨st,h0,hst⟩:=Option.bind_eq_some_iff.1 ht
 obtain ⟨xt,h1,hxt⟩:=Option.bind_eq_some_iff.1 hx
 have hargs:c.args=#[x,y]:=by apply Array.ext'; simpa using ha
 unfold r_appz at hr
 have hy:=evA hT y
 split at hr
 · rename_i ki mi e1
   rw [e1] at hy
   split at hr
   · rename_i m hm
     obtain ⟨rfl,hm2⟩:=idx_some hm
     generalize hq:a.eval y=q at hy
     cases hy
     obtain ⟨z,hzr⟩:=zeroAt hzc w
     have hzsz:z.cells.size=sz:=by
      have:=((hzr 0 w.heap).2 j).length
      rw [←hzl]; simpa using this
     have hz1:(zeroValue e).run P { w with drawn:=w.drawn+1 } = .ok z { w with drawn:=w.drawn+1 }:=(hzr (w.drawn+1) w.heap).1
     have hapd:appendA e h sz b ((cA x).ev tm) (Nat.succ m) (replL (Nat.succ m) zs) = .val v h'∧(∀ base sLen sCap,a.eval x = .slice base sLen sCap→sCap < sLen+(m+1)):=by
      have hx:=evA hT x
      unfold appzA at hr
      split at hr
      · rename_i e2
        rw [e2] at hx
        refine ⟨hr,fun base sLen sCap he=>?_⟩
        rw [he] at hx; cases hx
        omega
      · rename_i f k len cap sz' e2
        rw [e2] at hx
        split at hr
        · rename_i hle
          have hle':cap+1≤len+(m+1):=Nat.le_of_ble_eq_true hle
          refine ⟨hr,fun base sLen sCap he=>?_⟩
          rw [he] at hx
          cases hx with
          | sl _ _ _ _ _ _ l ad capc hj hcap hex hlen hloc =>
          have:=hex rfl
          omega
        · cases hr
      · cases hr
     obtain ⟨hr',hgrow⟩:=hapd
     have happ:AppOk P (fun sv=>(Builtin.append_ c.argTypes o.type #[sv,a.eval y]).run P w) w j h.blk v h'.blk N (a.eval x):=by
      refine app_spec (e:=e) (z:=z) (sz:=sz) (b:=b) (m:=m+1) (news:=Builtin.zeroCells z.cells (m+1)) (xs:=replL (Nat.succ m) zs) _ ?_ ?_ hzsz ?_ ?_ hR hf hN hN' (evA hT x) hr'
      · intro base sLen sCap w' hsv hle
        have:=hgrow base sLen sCap hsv
        omega
      · intro base sLen sCap old hsv hle hbig hold
        show (Builtin.append_ c.argTypes o.type #[_,a.eval y]).run P w=_
        rw [hsv,hq]
        exact q_appz_new h0 h1 hst hxt hs hb hold hz1 hzsz hle hbig
      · rw [zeroCells_eq]; exact zeros_spec ((hzr 0 w.heap).2 j) (m+1)
      · rw [replL_length,hzl]
     obtain ⟨cv,w',k1,j',k2,k3,k4⟩:=happ
     refine ⟨cv,w',_,?_,.inl rfl,j',k2,k3,k4⟩
     rw [q_call hop hc hargs rfl]
     refine run_v ?_
     simpa using k1
   · cases hr
 · cases hr
theorem elems_take {sz m k : Nat} {x : AV} {xs : List AV} (hR : RB P j h.blk n w) (he : elemsA h sz x = some (m, xs)) {c : Value} (hx : VR j x c) (hk : k ≤ m) :
    (Builtin.lenOf c).run P w = .ok m w ∧ xs.length = m * sz ∧ ∃ us, (Builtin.firstCells sz k c).run P w = .ok us w ∧ VRs j (xs.take (k * sz)) us.toList := by
  obtain ⟨news, g1, _, _, g4⟩ := elems_spec hR he hx
  refine ⟨g1, g4, ?_⟩
  unfold elemsA at he
  split at he
  · rename_i cap ys
    split at he
    · rename_i hall
      cases he
      have hall := allSz_spec hall
      by_cases hk0 : k * sz = 0
      · refine ⟨#[], ?_, ?_⟩
        · cases hx with
          | lstE _ p0 => cases p0 <;> simp [Builtin.firstCells, hk0, loadCells, loadCellsFrom]
          | lst => simp [Builtin.firstCells, hk0, loadCells, loadCellsFrom]
        · rw [hk0]; simpa using VRs.nil
      · cases hx with
        | lstE => exact absurd (by have : k = 0 := by simpa using hk
                                   rw [this]; exact Nat.zero_mul _) hk0
        | lst _ _ b k' capc sz' cs e fz hfr hcap hex hsz hk' hv =>
          have h0 : ys ≠ [] := fun e0 => by
            subst e0
            have : k = 0 := by simpa using hk
            exact hk0 (by rw [this]; exact Nat.zero_mul _)
          have hss : sz' = sz := by
            obtain ⟨y, hy⟩ := List.exists_mem_of_ne_nil _ h0
            exact (hsz y hy).symm.trans (hall y hy)
          subst hss
          have hl := (hR.ice _ _ hfr).1
          have hks : k * sz' ≤ ys.length * sz' := Nat.mul_le_mul_right _ hk
          refine ⟨_, run_loadCells hl (by omega), ?_⟩
          have h12 := hv.take (k * sz')
          have : (cs.extract k' (k' + ys.length * sz')).toList.take (k * sz') = (cs.extract k' (k' + k * sz')).toList := by
            simp only [Array.toList_extract, List.extract_eq_take_drop, List.take_take]
            congr 1
            omega
          rw [this] at h12
          exact h12
    · cases he
  · cases he; cases hx
    have : k = 0 := by omega
    subst this
    exact ⟨#[], rfl, by simpa using VRs.nil⟩
  · rename_i f o' len cap ex sz'
    split at he
    · rename_i hsz
      have hsz' := Nat.eq_of_beq_eq_true hsz
      subst hsz'
      split at he
      · rename_i cs hl
        cases he
        cases hx with
        | sl _ _ _ _ _ _ l ad capc hj hcap hex hlen hloc =>
        by_cases hk0 : k * sz = 0
        · refine ⟨#[], ?_, ?_⟩
          · simp [Builtin.firstCells, hk0, loadCells, loadCellsFrom]
          · rw [hk0]; simpa using VRs.nil
        · obtain ⟨ct, lo, hi, h1, h2, h3, h4⟩ := blkLdn_some hl
          obtain ⟨l', cc, e, fz, h5, h7, h9⟩ := hR.rd h1
          rw [h5] at hj; cases hj
          obtain ⟨h10, h11⟩ := ldFrom_spec h9 _ o' xs h2 h3 h4
          have hlo := h9.loB
          have hhi := h9.hiB
          have hsz := h9.size
          have hks : k * sz ≤ m * sz := Nat.mul_le_mul_right _ hk
          rcases hloc with h0 | ⟨_, rfl, _⟩
          · exfalso
            have : k = 0 := by omega
            exact hk0 (by rw [this]; exact Nat.zero_mul _)
          · refine ⟨_, run_loadCells h7 (by omega), ?_⟩
            have h12 : VRs j (xs.take (k * sz)) ((cc.extract (o' - l.base) (o' - l.base + m * sz)).toList.take (k * sz)) := h11.take _
            have : (cc.extract (o' - l.base) (o' - l.base + m * sz)).toList.take (k * sz) = (cc.extract (o' - l.base) (o' - l.base + k * sz)).toList := by
              simp only [Array.toList_extract, List.extract_eq_take_drop, List.take_take]
              congr 1
              omega
            rw [this] at h12
            exact h12
      · cases he
    · cases he
  · rename_i s
    split at he
    · rename_i hsz
      have hsz' := Nat.eq_of_beq_eq_true hsz
      subst hsz'
      cases he
      cases hx with
      | str bs =>
      rw [bytesOf_length] at hk
      refine ⟨(bs.extract 0 k).data.map fun b => .int .u8 b.toNat, rfl, ?_⟩
      have h1 := u8s_VRs (j := j) (bs.extract 0 k).data.toList
      have h2 : u8s ((bs.extract 0 k).data.toList.map (·.toNat)) = (u8s (bytesOf bs)).take (k * 1) := by
        have h3 := bytesOf_extract bs 0 k
        have h4 : ∀ (l : List Nat) m, (u8s l).take m = u8s (l.take m) := by
          intro l
          induction l with
          | nil => intro m; simp [u8s]
          | cons x l ih => intro m; cases m with
            | zero => rfl
            | succ m => simp [u8s, ih]
        rw [h4, Nat.mul_one]
        simp only [List.drop_zero] at h3
        rw [← h3]
        rfl
      rw [← h2]
      simpa using h1
    · cases he
  · cases he; cases hx
    have : k = 0 := by omega
    subst this
    exact ⟨#[], by simp [Builtin.firstCells, loadCells, loadCellsFrom], by simpa using VRs.nil⟩
  · cases he
theorem s_cpy {c:Call} {x y:Operand} {e:TypeId} {sz:Nat} (hT:TmR j nt tm a.tmps) (hR:RB P j h.blk n w) (hN:n≤N)
 (hop:o.op = .call c) (hc:c.callee = .builtin .copy) (ha:c.args.toList = [x,y]) (ht:(c.argTypes[0]?).bind P.underlying=some (.slice e))
 (hs:sizeOf? P e=some sz) (hr:r_cpy sz (cA x) (cA y) tm h = .val v h'):OpOk P o a w j h.blk v h'.blk N:=by
 obtain ⟨t,h0,ht0⟩:=Option.bind_eq_some_iff.1 ht
 have hargs:c.args=#[x,y]:=by apply Array.ext'; simpa using ha
 have hx:=evA hT x
 have hy:=evA hT y
 unfold r_cpy at hr
 split at hr
 · rename_i p e1 e2
   rw [e1] at hx
   cases hr
   obtain ⟨m,xs⟩:=p
   obtain ⟨g1,_,us,g2,g3⟩:=elems_take (k:=0) hR e2 hy (by omega)
   generalize hp:a.eval x=p at hx
   cases hx
   refine OpOk.same (cv:=.int .i64 0) ?_ (.int _ _) hR hN
   rw [q_call hop hc hargs rfl]
   refine run_v ?_
   simp [Builtin.copy_,h0,q_underlying ht0,hp,g1,q_sizeOf hs,g2,goInt]
 · rename_i f o' dl cap ex sz' m xs e1 e2
   rw [e1] at hx
   split at hr
   · rename_i hsz
     have:=Nat.eq_of_beq_eq_true hsz
     subst this
     split at hr
     · rename_i h2 hst
       cases hr
       obtain ⟨g1,g0,us,g2,g3⟩:=elems_take (k:=Nat.min m dl) hR e2 hy (Nat.min_le_left _ _)
       obtain ⟨l,w',k1,k2,k3,k4,k5⟩:=stn_spec hR hst g3
       generalize hp:a.eval x=p at hx
       cases hx with
       | sl _ _ _ _ _ _ l2 ad capc hj hcap hex hlen hloc =>
       rw [k1] at hj; cases hj
       have hstore:(storeCells ad us.toList).run P w = .ok () w':=by
        rcases hloc with h0' | ⟨_,rfl,_⟩
        · have hm:Nat.min m dl=0:=by have:Nat.min m dl≤dl:=Nat.min_le_right m dl; omega
          have hus:us.toList = []:=by
           have:=g3.length
           rw [hm] at this
           simpa using this
          have:=k3 (o' - l.base) 0 rfl
          rw [hus] at this ⊢
          simpa [storeCells] using this
        · exact k3 _ 0 rfl
       refine ⟨.int .i64 (Nat.min m dl:Nat),w',_,?_,.inl rfl,j,.int _ _,k4.sub (fun _ _ h=>h) hN,k5⟩
       rw [q_call hop hc hargs rfl]
       refine run_v ?_
       simp [Builtin.copy_,h0,q_underlying ht0,hp,g1,q_sizeOf hs,g2,hstore,goInt]
     · cases hr
   · cases hr
 · cases hr
theorem s_clr {c:Call} {x:Operand} {e:TypeId} {sz:Nat} {zs:List AV} (hT:TmR j nt tm a.tmps) (hR:RB P j h.blk n w) (hN:n≤N)
 (hop:o.op = .call c) (hc:c.callee = .builtin .clear) (ha:c.args.toList = [x]) (ht:(c.argTypes[0]?).bind P.underlying=some (.slice e))
 (hzc:zeroCellsOf P e=some zs) (hzl:zs.length=sz) (hr:r_clr sz zs (cA x) tm h = .val v h'):OpOk P o a w j h.blk v h'.blk N:=by
 obtain ⟨t,h0,ht0⟩:=Option.bind_eq_some_iff.1 ht
 have hargs:c.args=#[x]:=by apply Array.ext'; simpa using ha
 have hx:=evA hT x
 unfold r_clr at hr
 split at hr
 · rename_i e1
   rw [e1] at hx
   cases hr
   generalize hp:a.eval x=p at hx
   cases hx
   refine OpOk.same (cv:=.tuple #[]) ?_ (.tup _ _ .nil) hR hN
   rw [q_call hop hc hargs rfl]
   refine run_v ?_
   simp [Builtin.clear_,h0,q_underlying ht0,hp]
 · rename_i f k m cap ex sz' e1
   rw [e1] at hx
   split at hr
   · rename_i hsz
     have:=Nat.eq_of_beq_eq_true hsz
     subst this
     obtain ⟨z,hzr⟩:=zeroAt hzc w
     have hz1:(zeroValue e).run P w = .ok z w:=(hzr w.drawn w.heap).1
     have hzs:=(hzr 0 w.heap).2 j
     have hzv:=zeros_spec hzs m
     have hzsz:z.cells.size=sz:=by
      have:=hzs.length
      rw [←hzl]; simpa using this
     cases hst:h.stn f k (replL m zs) with
     | none=>rw [hst] at hr; cases hr
     | some h2 =>
      rw [hst] at hr
      cases hr
      obtain ⟨l,w',g1,g2,g3,g4,g5⟩:=stn_spec hR hst hzv
      generalize hp:a.eval x=p at hx
      cases hx with
      | sl _ _ _ _ _ _ l2 ad capc hj hcap hex hlen hloc =>
      rw [g1] at hj; cases hj
      have hstore:m≠0→(storeCells ad (Builtin.zeroCells z.cells m).toList).run P w = .ok () w':=fun hm=>by
       rcases hloc with h0' | ⟨_,rfl,_⟩
       · omega
       · exact g3 _ 0 rfl
      refine ⟨.tuple #[],w',_,?_,.inl rfl,j,.tup _ _ .nil,g4.sub (fun _ _ h=>h) hN,g5⟩
      rw [q_call hop hc hargs rfl]
      refine run_v ?_
      cases m with
      | zero =>
       have:w'=w:=by
        have:=g3 (k - l.base) 0 rfl
        simp [storeCells] at this
        exact this.symm
       rw [this]
       simp [Builtin.clear_,h0,q_underlying ht0,hp]
      | succ m =>
       simp [Builtin.clear_,h0,q_underlying ht0,hz1,hp,hstore (by omega)]
   · cases hr
 · cases hr
end
end Go.Ev
namespace Go.Ev
variable {P:Env}
section
variable {o:Oper} {a:Act} {w:World} {j:Inj} {n N nt:Nat} {tm:Tm} {h h':H} {v:AV}
theorem mx_pick (isMax:Bool) (x0 y0:Int):mxPick isMax x0 y0=(if isMax then (if y0 > x0 then y0 else x0) else (if y0 < x0 then y0 else x0)):=by
 unfold mxPick
 cases isMax
 · simp only [ible_eq]
   by_cases h1:x0≤y0
   · rw [decide_eq_true h1]; simp; omega
   · rw [decide_eq_false h1]; simp; omega
 · simp only [ible_eq]
   by_cases h1:y0≤x0
   · rw [decide_eq_true h1]; simp; omega
   · rw [decide_eq_false h1]; simp; omega
theorem mxA_spec {isMax:Bool} {f:Value→Value→Sem Value} (hf:∀ k x y,(f (.int k x) (.int k y)).run P w = .ok (.int k (if isMax then (if y > x then y else x) else (if y < x then y else x))) w) :
 ∀ {xs:List AV} {x u:AV},mxA isMax x xs=some u→∀ {p:Value} {qs:List Value},VR j x p→VRs j xs qs→∃ c,(qs.foldlM f p).run P w = .ok c w∧VR j u c:=by
 intro xs
 induction xs with
 | nil =>
  intro x u hu p qs hp hq
  cases hq
  unfold mxA at hu
  cases hu
  exact ⟨p,rfl,hp⟩
 | cons y ys ih =>
  intro x u hu p qs hp hq
  unfold mxA at hu
  split at hu
  · rename_i he; cases he
  · rename_i k x0 k' y0 rest he
    cases he
    split at hu
    · rename_i hk
      have:=(kindEq_iff _ _).1 hk
      subst this
      cases hq with
      | cons _ _ c cs hc hcs =>
      cases hp; cases hc
      rw [mx_pick] at hu
      obtain ⟨c,g1,g2⟩:=ih hu (.int _ _) hcs
      refine ⟨c,?_,g2⟩
      simp only [List.foldlM_cons,Sem.run_bind,hf,Result.andThen_ok]
      exact g1
    · cases hu
  · cases hu
theorem s_mx {c:Call} {isMax:Bool} (hT:TmR j nt tm a.tmps) (hR:RB P j h.blk n w) (hN:n≤N)
 (hop:o.op = .call c) (hc:c.callee = .builtin (if isMax then .max else .min)) (hr:r_mx isMax (c.args.toList.map cA) tm h = .val v h'):OpOk P o a w j h.blk v h'.blk N:=by
 have hv:=evAs hT c.args.toList
 unfold r_mx at hr
 split at hr
 · rename_i x rest e1
   rw [e1] at hv
   cases hm:mxA isMax x rest with
   | none=>rw [hm] at hr; cases hr
   | some u =>
    rw [hm] at hr
    cases hr
    generalize hq:c.args.toList.map a.eval=qs at hv
    cases hv with
    | cons _ _ p ps hp hps =>
    have hargs:(c.args.map a.eval).toList=p :: ps:=by rw [Array.toList_map]; exact hq
    cases isMax with
    | true =>
     obtain ⟨cv,g1,g2⟩:=mxA_spec (w:=w) (f:=Builtin.max2) (isMax:=true) (fun k x y=>by simp [Builtin.max2]) hm hp hps
     refine OpOk.same ?_ g2 hR hN
     rw [q_call hop hc rfl rfl]
     refine run_v ?_
     simp only [Builtin.max_,hargs]
     exact g1
    | false =>
     obtain ⟨cv,g1,g2⟩:=mxA_spec (w:=w) (f:=Builtin.min2) (isMax:=false) (fun k x y=>by simp [Builtin.min2]) hm hp hps
     refine OpOk.same ?_ g2 hR hN
     rw [q_call hop hc rfl rfl]
     refine run_v ?_
     simp only [Builtin.min_,hargs]
     exact g1
 · cases hr
theorem q_checkStruct {em:Bool} {D:Nat} {t:TypeId} {us:Array Value} {fs:Array Field} (ht:P.underlying t=some (.struct fs))
 (hall:∀ f∈fs.toList,∃ c,(part f.type us f.offset).run P w = .ok c w∧(Instr.checkKey em D f.type c).run P w = .ok () w):(Instr.checkKey em (D+1) t (.agg us)).run P w = .ok () w:=by
 simp only [Instr.checkKey,Sem.run_bind,q_underlying ht,Result.andThen_ok]
 rw [←Array.forIn_toList]
 generalize fs.toList=l at hall
 induction l with
 | nil=>rfl
 | cons f l ih =>
  obtain ⟨c,h1,h2⟩:=hall f (by simp)
  rw [List.forIn_cons]
  by_cases hn:f.name≠ "_"
  · simp only [if_pos hn,Sem.run_bind,h1,Result.andThen_ok,h2,Sem.run_pure]
    exact ih (fun g hg=>hall g (by simp [hg]))
  · simp only [if_neg hn,Sem.run_bind,Result.andThen_ok,Sem.run_pure]
    exact ih (fun g hg=>hall g (by simp [hg]))
theorem checkKey_spec {em:Bool} {lv:Pos→Nat→Bool}:∀ (d:Nat) {t:TypeId} {p:EqPlan},eqPlan P d t=some p→∀ {D:Nat},d≤D→∀ {x:AV},p.run lv x x=some true→∀ {u:Value},VR j x u →
 (Instr.checkKey em D t u).run P w = .ok () w:=by
 intro d
 induction d with
 | zero=>intro t p hp; simp [eqPlan] at hp
 | succ d ih =>
  intro t p hp D hD x hb u hu
  obtain ⟨D,rfl⟩:∃ k,D=k+1:=⟨D - 1,by omega⟩
  unfold eqPlan at hp
  split at hp
  · rename_i ht; simp [Instr.checkKey,q_underlying ht]
  · rename_i ht; simp [Instr.checkKey,q_underlying ht]
  · rename_i ht; simp [Instr.checkKey,q_underlying ht]
  · rename_i e ht
    simp [Instr.checkKey,q_underlying ht]
  · rename_i fs ht
    split at hp
    · cases hp
    · obtain ⟨xs,ys,rfl,_⟩:=eqChain_agg hp hb
      cases hu with
      | agg _ us hus =>
      refine q_checkStruct ht ?_
      clear ht
      generalize fs.toList=fl at hp
      induction fl generalizing p with
      | nil=>intro f hf; cases hf
      | cons f fl ihf =>
       unfold eqChain at hp
       split at hp
       · cases hp
       · split at hp
         · rename_i p a n q e1 e2 e3 e4
           cases hp
           change eqCons f.offset n a (p.run lv) (q.run lv) (.agg xs) (.agg xs)=some true at hb
           simp only [eqCons] at hb
           split at hb
           · rename_i x1 y1 ex ey
             rw [ex] at ey; cases ey
             obtain ⟨c1,r1,v1⟩:=partA_spec (w:=w) e3 e2 hus ex
             rcases eqThen_some hb with ⟨hrun,hk⟩ | ⟨_,hf⟩
             · intro g hg
               rcases List.mem_cons.1 hg with rfl | hg
               · exact ⟨c1,r1,ih e1 (by omega) hrun v1⟩
               · exact ihf hk e4 g hg
             · cases hf
           · cases hb
         · cases hp
  · cases hp
theorem keyOk_spec {em:Bool} {t:TypeId} {p:EqPlan} (hp:eqPlan P 10 t=some p) {x:AV} (hk:keyOk p x=true) {u:Value} (hu:VR j x u):(Instr.checkKey em 10000 t u).run P w = .ok () w:=by
 refine checkKey_spec (lv:=noLv) 10 hp (by omega) ?_ hu
 unfold keyOk at hk
 split at hk
 · rename_i b e; rw [e,hk]
 · cases hk
theorem sameNow_spec' {t:TypeId} {td:TypeDesc} (ht:P.underlying t=some td) {u v:Value} {b:Bool} (h:Instr.sameNow td u v=some b) (D:Nat):(Op.equalIn (D+1) t u v).run P w = .ok b w:=by
 unfold Instr.sameNow at h
 split at h
 · split at h
   · rename_i hk; subst hk; cases h
     simp [Op.equalIn,q_underlying ht]
   · cases h
 · cases h
   simp [Op.equalIn,q_underlying ht]
 · cases h
   simp [Op.equalIn,q_underlying ht]
 · cases h
theorem sameNow_spec {t:TypeId} {td:TypeDesc} (ht:P.underlying t=some td) {u v:Value} {b:Bool} (h:Instr.sameNow td u v=some b):(Op.equal t u v).run P w = .ok b w:=sameNow_spec' ht h 9999
theorem q_getObj {w:World} {b:Nat} {ob:Obj} (h:w.heap[b]? = some ob) (hn:∀ c e f,ob≠.cells c e f):(getObj b).run P w = .ok ob w:=by
 cases ob <;> first | exact absurd rfl (hn _ _ _) | simp [getObj,Sem.run,h]
theorem q_getMap {w:World} {b:Nat} {ces:Array MapEntry} {k:Nat} (h:w.heap[b]? = some (.map ces k)):(getObj b).run P w = .ok (.map ces k) w:=q_getObj h (fun _ _ _ e=>by cases e)
theorem EsR.length {es:List (AV × AV)} {ces:List MapEntry} (h:EsR j es ces):ces.length=es.length:=by
 induction h with
 | nil=>rfl
 | cons=>simp_all
theorem isVar_some {b:Option Blk} (hb:isVar b=true):∃ c lo hi e m,b=some (.cells c lo hi (.var e m)):=by
 unfold isVar at hb
 split at hb
 · exact ⟨_,_,_,_,_,rfl⟩
 · cases hb
theorem RB.lvOk {h:H} (hR:RB P j h.blk n w):LvOk j w h.lv:=by
 refine ⟨fun f o g p lf lg h1 h2 h3 h4 h5=>?_,fun f o lf h1 h3=>?_⟩
 · obtain ⟨c,lo,hi,e,m,k1⟩:=isVar_some h1
   obtain ⟨c',lo',hi',e',m',k2⟩:=isVar_some h2
   exact hR.apart f g lf lg ⟨_,k1,trivial⟩ ⟨_,k2,trivial⟩ h3 h4 h5
 · obtain ⟨c,lo,hi,e,m,k1⟩:=isVar_some h1
   obtain ⟨l,cs,e',fz,g1,g2,g3,g4,g5,g6⟩:=hR.cellsTy k1
   rw [h3] at g1; cases g1
   exact ⟨cs,e',fz,g3,g6.2.2.2⟩
theorem find_spec {lv:Pos→Nat→Bool} (hlv:LvOk j w lv) {t:TypeId} {td:TypeDesc} {p:EqPlan} (ht:P.underlying t=some td) (hp:eqPlan P 10 t=some p) {k:AV} {kv:Value} (hk:VR j k kv) {es:List (AV × AV)} {ces:List MapEntry} (hes:EsR j es ces) :
 ∀ (r:Option AV),findK lv p k es=some r→∀ i0,∃ r',(Instr.findAsking t kv ces i0).run P w = .ok r' w∧(∀ q,Instr.findNow td kv ces i0=some q→q=r') ∧
  match r with
  | none=>r'=none∧(∀ x es',updK lv p k x es=some es'→es'=es ++ [(k,x)])
  | some v=>∃ i cv,r'=some (i0+i,cv)∧VR j v cv∧∃ e kk vv,ces[i]? = some e∧es[i]? = some (kk,vv)∧VR j kk e.key∧e.val=cv∧(∀ x es',updK lv p k x es=some es'→es'=es.set i (k,x)∧keySame kk k=true)∧idxK lv p k es=some i:=by
 induction hes with
 | nil =>
  intro r hr i0
  cases hr
  exact ⟨none,rfl,fun q hq=>by cases hq; rfl,rfl,fun x es' h=>by cases h; rfl⟩
 | cons kk vv es e ces hkk hvv hes ih =>
  intro r hr i0
  unfold findK at hr
  split at hr
  · rename_i hrun
    cases hr
    have heq:(Op.equal t kv e.key).run P w = .ok true w:=eqPlan_spec hlv 10 hp (D:=10000) (by omega) hrun hk hkk
    refine ⟨some (i0,e.val),by simp [Instr.findAsking,heq],fun q hq=>?_,0,e.val,rfl,hvv,e,kk,vv,rfl,rfl,hkk,rfl,fun x es' hu=>?_,by unfold idxK; rw [hrun]⟩
    · unfold Instr.findNow at hq
      split at hq
      · cases hq; rfl
      · rename_i hs
        have:=sameNow_spec (w:=w) ht hs
        rw [heq] at this; cases this
      · cases hq
    · unfold updK at hu
      rw [hrun] at hu
      simp only at hu
      split at hu
      · rename_i hks; cases hu; exact ⟨rfl,hks⟩
      · cases hu
  · rename_i hrun
    have heq:(Op.equal t kv e.key).run P w = .ok false w:=eqPlan_spec hlv 10 hp (D:=10000) (by omega) hrun hk hkk
    obtain ⟨r',g1,g2,g3⟩:=ih r hr (i0+1)
    refine ⟨r',by simp [Instr.findAsking,heq,g1],fun q hq=>?_,?_⟩
    · unfold Instr.findNow at hq
      split at hq
      · rename_i hs
        have:=sameNow_spec (w:=w) ht hs
        rw [heq] at this; cases this
      · exact g2 q hq
      · cases hq
    · have hup:∀ x es',updK lv p k x ((kk,vv) :: es)=some es'→∃ es'',updK lv p k x es=some es''∧es'=(kk,vv) :: es'':=by
       intro x es' hu
       unfold updK at hu
       rw [hrun] at hu
       simp only at hu
       split at hu
       · rename_i es'' he; cases hu; exact ⟨es'',he,rfl⟩
       · cases hu
      cases r with
      | none =>
       refine ⟨g3.1,fun x es' hu=>?_⟩
       obtain ⟨es'',h1,rfl⟩:=hup x es' hu
       rw [g3.2 x es'' h1]; rfl
      | some v =>
       obtain ⟨i,cv,h1,h2,e',kk',vv',h3,h4,h5,h6,h7,h8x⟩:=g3
       refine ⟨i+1,cv,by rw [h1]; simp; omega,h2,e',kk',vv',h3,h4,h5,h6,fun x es' hu=>?_,by unfold idxK; rw [hrun]; simp only [h8x]⟩
       obtain ⟨es'',h8,rfl⟩:=hup x es' hu
       obtain ⟨h9,h10⟩:=h7 x es'' h8
       rw [h9]
       exact ⟨rfl,h10⟩
  · cases hr
theorem eqPlan_desc {d:Nat} {t:TypeId} {p:EqPlan} (hp:eqPlan P d t=some p):∃ td,P.underlying t=some td:=by
 cases d with
 | zero=>simp [eqPlan] at hp
 | succ d =>
  unfold eqPlan at hp
  cases h:P.underlying t with
  | none=>rw [h] at hp; cases hp
  | some td=>exact ⟨td,rfl⟩
theorem findKey_spec {lv:Pos→Nat→Bool} (hlv:LvOk j w lv) {t:TypeId} {p:EqPlan} (hp:eqPlan P 10 t=some p) {k:AV} {kv:Value} (hk:VR j k kv) {es:List (AV × AV)} {ces:List MapEntry} (hes:EsR j es ces) {r:Option AV} (hr:findK lv p k es=some r) :
 ∃ r',(Instr.findKey t kv ces).run P w = .ok r' w ∧
  match r with
  | none=>r'=none∧(∀ x es',updK lv p k x es=some es'→es'=es ++ [(k,x)])
  | some v=>∃ i cv,r'=some (i,cv)∧VR j v cv∧∃ e kk vv,ces[i]? = some e∧es[i]? = some (kk,vv)∧VR j kk e.key∧e.val=cv∧(∀ x es',updK lv p k x es=some es'→es'=es.set i (k,x)∧keySame kk k=true)∧idxK lv p k es=some i:=by
 obtain ⟨td,ht⟩:=eqPlan_desc hp
 obtain ⟨r',g1,g2,g3⟩:=find_spec (w:=w) hlv ht hp hk hes r hr 0
 refine ⟨r',?_,?_⟩
 · simp only [Instr.findKey,Sem.run_bind,q_underlying ht,Result.andThen_ok]
   split
   · rename_i q hq
     rw [g2 q hq]; rfl
   · exact g1
 · cases r with
   | none=>exact g3
   | some v =>
    obtain ⟨i,cv,h1,h2⟩:=g3
    exact ⟨i,cv,by rw [h1]; simp,h2⟩
theorem s_lkp {t kt et:TypeId} {x y:Operand} {ok:Bool} {kp:EqPlan} {z:AV} (hT:TmR j nt tm a.tmps) (hR:RB P j h.blk n w) (hN:n≤N) (hop:o.op = .lookup t x y ok) (ht:P.underlying t=some (.map kt et))
 (hz:zeroOf P et=some z) (hp:eqPlan P 10 kt=some kp) (hr:r_lkp kp z ok (cA x) (cA y) tm h = .val v h'):OpOk P o a w j h.blk v h'.blk N:=by
 unfold r_lkp at hr
 have hx:=evA hT x
 have hy:=evA hT y
 obtain ⟨zc,hz1,hz2⟩:=q_zeroValue (w:=w) hz
 have hzv:VR j z zc:=hz2 ▸ VR.ofValue j zc
 split at hr
 · rename_i hk
   have hck:∀ em,(Instr.checkKey em 10000 kt (a.eval y)).run P w = .ok () w:=fun em=>keyOk_spec hp hk hy
   have main:∀ {b:Nat} {ces:Array MapEntry} {es:List (AV × AV)} {r:Option AV},a.eval x = .map (some b)→w.heap[b]? = some (.map ces ces.size)→EsR j es ces.toList→findK h.lv kp ((cA y).ev tm) es=some r→OpOk P o a w j h.blk (lkOut z ok r) h.blk N:=by
    intro b ces es r hq g4 g5 hf
    obtain ⟨r',k1,k2⟩:=findKey_spec (w:=w) hR.lvOk hp hy g5 hf
    cases r with
    | none =>
     obtain ⟨rfl,_⟩:=k2
     refine OpOk.same (cv:=if ok then .tuple #[zc,.bool false] else zc) ?_ ?_ hR hN
     · simp only [execOp,hop]
       refine run_v ?_
       simp [Instr.lookup,q_underlying ht,hq,q_getMap g4,hck,k1,hz1]
     · cases ok
       · exact hzv
       · exact .tup _ _ (.cons _ _ _ _ hzv (.cons _ _ _ _ (.bool _) .nil))
    | some v =>
     obtain ⟨i,cv,rfl,hv,_⟩:=k2
     refine OpOk.same (cv:=if ok then .tuple #[cv,.bool true] else cv) ?_ ?_ hR hN
     · simp only [execOp,hop]
       refine run_v ?_
       simp [Instr.lookup,q_underlying ht,hq,q_getMap g4,hck,k1]
     · cases ok
       · exact hv
       · exact .tup _ _ (.cons _ _ _ _ hv (.cons _ _ _ _ (.bool _) .nil))
   split at hr
   · rename_i e1
     rw [e1] at hx
     cases hr
     generalize hq:a.eval x=q at hx
     cases hx
     have hfk:(Instr.findKey kt (a.eval y) []).run P w = .ok none w:=by
      obtain ⟨r',g1,g2,_⟩:=findKey_spec (w:=w) hR.lvOk (r:=none) hp hy .nil rfl
      rw [g1,g2]
     refine OpOk.same (cv:=if ok then .tuple #[zc,.bool false] else zc) ?_ ?_ hR hN
     · simp only [execOp,hop]
       refine run_v ?_
       simp [Instr.lookup,q_underlying ht,hq,hck,hfk,hz1]
     · cases ok
       · exact hzv
       · exact .tup _ _ (.cons _ _ _ _ hzv (.cons _ _ _ _ (.bool _) .nil))
   · rename_i ks vs e1
     rw [e1] at hx
     split at hr
     · rename_i r hf
       cases hr
       generalize hq:a.eval x=q at hx
       cases hx with
       | fm _ _ b ces hfr hk hv hb=>exact main hq (hR.ice _ _ hfr).1 (EsR.zip hk hv) hf
     · cases hr
   · rename_i f e1
     rw [e1] at hx
     split at hr
     · rename_i es hb
       split at hr
       · rename_i r hf
         cases hr
         generalize hq:a.eval x=q at hx
         cases hx with
         | map _ l hj =>
         obtain ⟨l',g1,g2,g3,ces,g4,g5,g6⟩:=hR.blk f _ hb
         rw [g1] at hj; cases hj
         exact main hq g4 g5 hf
       · cases hr
     · rename_i es hb
       split at hr
       · rename_i r hf
         cases hr
         generalize hq:a.eval x=q at hx
         cases hx with
         | map _ l hj =>
         obtain ⟨l',g1,g2,ces,g4,g5,g6⟩:=hR.blk f _ hb
         rw [g1] at hj; cases hj
         exact main hq (hR.ice _ _ g4).1 g5 hf
       · cases hr
     · cases hr
   · cases hr
 · cases hr
end
end Go.Ev
namespace Go.Ev
variable {P:Env}
section
variable {o:Oper} {a:Act} {w:World} {j:Inj} {n N nt:Nat} {tm:Tm} {h h':H} {v:AV}
theorem cellSame_spec {x y:AV} (hs:cellSame x y=true) {u v:Value} (hu:VR j x u) (hv:VR j y v):∀ D,Instr.sameBits D u v=true:=by
 intro D
 unfold cellSame at hs
 split at hs
 · cases hu; cases hv
   rename_i b b'
   cases b <;> cases b' <;> simp_all [Instr.sameBits]
 · cases hu; cases hv
   obtain ⟨h1,h2⟩:=and_true hs
   have:=(kindEq_iff _ _).1 h1
   rw [ibeq_eq] at h2
   have h3:=eq_of_beq h2
   subst this h3
   simp [Instr.sameBits]
 · cases hu with
   | str s =>
   cases hv with
   | str t =>
   rw [strEq_bytes] at hs
   have h1:=eq_of_beq hs
   have:s=t:=by
    rw [toList_data,toList_data] at h1
    exact ByteArray.ext (Array.ext' h1)
   subst this
   have:(s==s)=true:=by
    show (s.data==s.data)=true
    simp
   simpa [Instr.sameBits] using this
 · obtain ⟨h1,h2⟩:=and_true hs
   have:=posEq_eq' h1
   subst this
   have:=Nat.eq_of_beq_eq_true h2
   subst this
   cases hu with
   | ptr _ _ l hj hk =>
   cases hv with
   | ptr _ _ l' hj' hk' =>
   rw [hj] at hj'; cases hj'
   simp [Instr.sameBits]
 · cases hu; cases hv
   simp [Instr.sameBits]
 · cases hs
theorem q_setObj {w:World} {b:Nat} {ob ob':Obj} (h:w.heap[b]? = some ob') (hn:∀ c e f,ob'≠.cells c e f):(setObj b ob).run P w = .ok () { w with heap:=w.heap.setIfInBounds b ob }:=by
 cases ob' <;> first | exact absurd rfl (hn _ _ _) | simp [setObj,Sem.run,h]
theorem cellsSame_spec {D:Nat}:∀ {xs ys:List AV},cellsSame xs ys=true→∀ {us vs:List Value},VRs j xs us→VRs j ys vs→us.length=vs.length∧((us.zip vs).all fun (x,y)=>Instr.sameBits D x y)=true:=by
 intro xs
 induction xs with
 | nil =>
  intro ys hs us vs hu hv
  cases ys with
  | nil=>cases hu; cases hv; exact ⟨rfl,rfl⟩
  | cons=>cases hs
 | cons x xs ih =>
  intro ys hs us vs hu hv
  cases ys with
  | nil=>cases hs
  | cons y ys =>
   cases hu with
   | cons _ _ u us hu hus =>
   cases hv with
   | cons _ _ v vs hv hvs =>
   obtain ⟨h1,h2⟩:=and_true (show and (cellSame x y) (cellsSame xs ys)=true from hs)
   obtain ⟨h3,h4⟩:=ih h2 hus hvs
   exact ⟨by simp [h3],by simp only [List.zip_cons_cons,List.all_cons,h4,Bool.and_true]; exact cellSame_spec h1 hu hv D⟩
theorem keySame_spec {x y:AV} (hs:keySame x y=true) {u v:Value} (hu:VR j x u) (hv:VR j y v):Instr.sameBits 10000 u v=true:=by
 unfold keySame at hs
 split at hs
 · cases hu with
   | agg _ us hus =>
   cases hv with
   | agg _ vs hvs =>
   obtain ⟨h1,h2⟩:=cellsSame_spec (D:=9999) hs hus hvs
   have h3:us.size=vs.size:=by simpa using h1
   show (us.size==vs.size && (us.toList.zip vs.toList).all fun (x,y)=>Instr.sameBits 9999 x y)=true
   rw [h2,h3]; simp
 · exact cellSame_spec hs hu hv _
theorem EsR.push {es:List (AV × AV)} {ces:List MapEntry} (h:EsR j es ces) {k v:AV} {e:MapEntry} (hk:VR j k e.key) (hv:VR j v e.val):EsR j (es ++ [(k,v)]) (ces ++ [e]):=by
 induction h with
 | nil=>exact .cons _ _ _ _ _ hk hv .nil
 | cons k v es e ces hk hv _ ih=>exact .cons _ _ _ _ _ hk hv ih
theorem EsR.set {es:List (AV × AV)} {ces:List MapEntry} (h:EsR j es ces):∀ {i:Nat} {k v:AV} {e:MapEntry},VR j k e.key→VR j v e.val→EsR j (es.set i (k,v)) (ces.set i e):=by
 induction h with
 | nil=>intro i k v e _ _; exact .nil
 | cons k v es e ces hk hv hes ih =>
  intro i k' v' e' hk' hv'
  cases i with
  | zero=>exact .cons _ _ _ _ _ hk' hv' hes
  | succ i=>exact .cons _ _ _ _ _ hk hv (ih hk' hv')
theorem updK_findK {lv:Pos→Nat→Bool} {p:EqPlan} {k x:AV}:∀ {es es':List (AV × AV)},updK lv p k x es=some es'→∃ r,findK lv p k es=some r:=by
 intro es
 induction es with
 | nil=>intro es' _; exact ⟨none,rfl⟩
 | cons kv es ih =>
  obtain ⟨k',v⟩:=kv
  intro es' hu
  unfold updK at hu
  unfold findK
  split at hu
  · exact ⟨_,rfl⟩
  · split at hu
    · rename_i r hr; exact ih hr
    · cases hu
  · cases hu
theorem s_mupd {t kt et:TypeId} {m x y:Operand} {kp:EqPlan} (hT:TmR j nt tm a.tmps) (hR:RB P j h.blk n w) (hN:n≤N) (hop:o.op = .mapUpdate t m x y∨o.op = .insert t m x y) (ht:P.underlying t=some (.map kt et))
 (hp:eqPlan P 10 kt=some kp) (hr:r_mupd kp (cA m) (cA x) (cA y) tm h = .val v h'):OpOk P o a w j h.blk v h'.blk N:=by
 unfold r_mupd at hr
 have hm:=evA hT m
 have hx:=evA hT x
 have hy:=evA hT y
 split at hr
 · rename_i hk
   have hck:(Instr.checkKey false 10000 kt (a.eval x)).run P w = .ok () w:=keyOk_spec hp hk hx
   split at hr
   · rename_i f e1
     rw [e1] at hm
     split at hr
     · rename_i es hb
       split at hr
       · rename_i es' hu
         cases hr
         obtain ⟨r,hf⟩:=updK_findK hu
         generalize hq:a.eval m=q at hm
         cases hm with
         | map _ l hj =>
         obtain ⟨l',g1,g2,g3,ces,g4,g5,g6⟩:=hR.blk f _ hb
         have g2:=g2 trivial
         rw [g1] at hj; cases hj
         obtain ⟨r',k1,k2⟩:=findKey_spec (w:=w) hR.lvOk hp hx g5 hf
         have key:∃ ces':Array MapEntry,EsR j es' ces'.toList∧(∀ (i:Nat) (e:MapEntry),ces'[i]? = some e→e.born=i) ∧
          (Instr.mapUpdate t (a.eval m) (a.eval x) (a.eval y)).run P w = .ok () { w with heap:=w.heap.setIfInBounds l.blk (.map ces' ces'.size) }:=by
          cases r with
          | none =>
           obtain ⟨rfl,h2⟩:=k2
           refine ⟨ces.push { key:=a.eval x,val:=a.eval y,born:=ces.size },?_,fun i e he=>?_,?_⟩
           · rw [h2 _ _ hu,Array.toList_push]; exact g5.push hx hy
           · rw [Array.getElem?_push] at he
             split at he
             · rename_i hi; cases he; exact hi.symm
             · exact g6 i e he
           · rw [hq]
             simp [Instr.mapUpdate,q_underlying ht,q_getMap g4,hck,k1,q_setObj g4 (fun _ _ _ e=>by cases e)]
          | some v =>
           obtain ⟨i,cv,rfl,h2,e,kk,vv,h3,h4,h5,h6,h7,_⟩:=k2
           obtain ⟨h8,h9⟩:=h7 _ _ hu
           have hsb:=keySame_spec h9 h5 hx
           have h3':ces[i]? = some e:=by simpa using h3
           have hkt:(Instr.keyThatStays e.key (a.eval x)).run P w = .ok (a.eval x) w:=by simp [Instr.keyThatStays,hsb]
           refine ⟨ces.modify i fun e=>{ e with key:=a.eval x,val:=a.eval y },?_,fun i' e' he=>?_,?_⟩
           · rw [h8]
             have:(ces.modify i fun e=>{ e with key:=a.eval x,val:=a.eval y }).toList=ces.toList.set i { e with key:=a.eval x,val:=a.eval y }:=by
              rw [Array.toList_modify]
              apply List.ext_getElem?
              intro i'
              rw [List.getElem?_modify,List.getElem?_set]
              by_cases hii:i=i'
              · subst hii
                simp [h3']
                have:=(Array.getElem?_eq_some_iff.1 h3').1
                simp [this]
              · simp [hii]
             rw [this]
             exact g5.set hx hy
           · rw [Array.getElem?_modify] at he
             split at he
             · cases hc:ces[i']? with
               | none=>rw [hc] at he; simp at he
               | some e0=>rw [hc] at he; simp at he; rw [←he]; show e0.born=i'; exact g6 _ _ hc
             · exact g6 _ _ he
           · rw [hq]
             simp [Instr.mapUpdate,q_underlying ht,q_getMap g4,hck,k1,h3',hkt,q_setObj g4 (fun _ _ _ e=>by cases e)]
         obtain ⟨ces',h1,h2,h3⟩:=key
         obtain ⟨r1,r2⟩:=RB.update hR f ⟨_,hb,trivial⟩ g1 (.map es') (w':={ w with heap:=w.heap.setIfInBounds l.blk (.map ces' ces'.size) }) (by simp) (fun k hk=>setIfInBounds_ne _ _ _ _ hk) rfl rfl rfl
          ⟨g3,ces',by simp [g2],h1,h2⟩
         refine ⟨undef,{ w with heap:=w.heap.setIfInBounds l.blk (.map ces' ces'.size) },.skip,?_,.inr ⟨rfl,rfl⟩,j,VRs.undef,?_,?_⟩
         · rcases hop with hop | hop <;>
           · simp only [execOp,hop]
             exact run_u h3
         · rw [H.blk_put]; exact r1.sub (fun _ _ h=>h) hN
         · rw [H.blk_put]; exact r2
       · cases hr
     · cases hr
   · cases hr
 · cases hr
theorem s_ment {t kt et:TypeId} {m x:Operand} {kp:EqPlan} {z:AV} (hT:TmR j nt tm a.tmps) (hR:RB P j h.blk n w) (hN:n≤N) (hop:o.op = .mapEntry t m x) (ht:P.underlying t=some (.map kt et))
 (hz:zeroOf P et=some z) (hp:eqPlan P 10 kt=some kp) (hr:r_ment kp z (cA m) (cA x) tm h = .val v h'):OpOk P o a w j h.blk v h'.blk N:=by
 unfold r_ment at hr
 have hm:=evA hT m
 have hx:=evA hT x
 obtain ⟨zc,hz1,hz2⟩:=q_zeroValue (w:=w) hz
 have hzv:VR j z zc:=hz2 ▸ VR.ofValue j zc
 split at hr
 · rename_i hk
   have hck:(Instr.checkKey false 10000 kt (a.eval x)).run P w = .ok () w:=keyOk_spec hp hk hx
   split at hr
   · rename_i f e1
     rw [e1] at hm
     split at hr
     · rename_i es hb
       unfold mentA at hr
       generalize hq:a.eval m=q at hm
       cases hm with
       | map _ l hj =>
       obtain ⟨l',g1,g2,g3,ces,g4,g5,g6⟩:=hR.blk f _ hb
       have g2:=g2 trivial
       rw [g1] at hj; cases hj
       have hlen:ces.size=es.length:=by simpa using g5.length
       have fin:∀ (es':List (AV × AV)) (ces':Array MapEntry) (cv:Value),EsR j es' ces'.toList→(∀ (i:Nat) (e:MapEntry),ces'[i]? = some e→e.born=i) →
        (Instr.mapEntry t (a.eval m) (a.eval x)).run P w = .ok cv { w with heap:=w.heap.setIfInBounds l.blk (.map ces' ces'.size) }→VR j v cv→h'=h.put f (.map es')→OpOk P o a w j h.blk v h'.blk N:=by
        intro es' ces' cv h1 h2 h3 hv he
        subst he
        obtain ⟨r1,r2⟩:=RB.update hR f ⟨_,hb,trivial⟩ g1 (.map es') (w':={ w with heap:=w.heap.setIfInBounds l.blk (.map ces' ces'.size) }) (by simp) (fun k hk=>setIfInBounds_ne _ _ _ _ hk) rfl rfl rfl
         ⟨g3,ces',by simp [g2],h1,h2⟩
        refine ⟨cv,{ w with heap:=w.heap.setIfInBounds l.blk (.map ces' ces'.size) },_,?_,.inl rfl,j,hv,?_,?_⟩
        · simp only [execOp,hop]
          exact run_v h3
        · rw [H.blk_put]; exact r1.sub (fun _ _ h=>h) hN
        · rw [H.blk_put]; exact r2
       split at hr
       · rename_i hf
         obtain ⟨r',k1,rfl,k2⟩:=findKey_spec (w:=w) hR.lvOk hp hx g5 hf
         split at hr
         · rename_i es' hu
           cases hr
           refine fin es' (ces.push { key:=a.eval x,val:=zc,born:=ces.size }) (.tuple #[zc,.int .i64 ces.size]) ?_ (fun i e he=>?_) ?_ ?_ rfl
           · rw [k2 _ _ hu,Array.toList_push]; exact g5.push hx hzv
           · rw [Array.getElem?_push] at he
             split at he
             · rename_i hi; cases he; exact hi.symm
             · exact g6 i e he
           · rw [hq]
             simp [Instr.mapEntry,q_underlying ht,q_getMap g4,hck,k1,hz1,goInt,q_setObj g4 (fun _ _ _ e=>by cases e)]
           · refine .tup _ _ (.cons _ _ _ _ hzv (.cons _ _ _ _ ?_ .nil))
             rw [hlen]; exact .int _ _
         · cases hr
       · rename_i u hf
         obtain ⟨r',k1,i,cv,rfl,h2,e,kk,vv,h3,h4,h5,h6,h7,h8⟩:=findKey_spec (w:=w) hR.lvOk hp hx g5 hf
         split at hr
         · rename_i es' i' hu hi
           rw [h8] at hi; cases hi
           cases hr
           obtain ⟨h9,h10⟩:=h7 _ _ hu
           have hsb:=keySame_spec h10 h5 hx
           have h3':ces[i]? = some e:=by simpa using h3
           have hkt:(Instr.keyThatStays e.key (a.eval x)).run P w = .ok (a.eval x) w:=by simp [Instr.keyThatStays,hsb]
           have hborn:=g6 _ _ h3'
           refine fin es' (ces.modify i fun e=>{ e with key:=a.eval x }) (.tuple #[cv,.int .i64 i]) ?_ (fun i' e' he=>?_) ?_ ?_ rfl
           · rw [h9]
             have:(ces.modify i fun e=>{ e with key:=a.eval x }).toList=ces.toList.set i { e with key:=a.eval x }:=by
              rw [Array.toList_modify]
              apply List.ext_getElem?
              intro i'
              rw [List.getElem?_modify,List.getElem?_set]
              by_cases hii:i=i'
              · subst hii
                simp [h3']
                have:=(Array.getElem?_eq_some_iff.1 h3').1
                simp [this]
              · simp [hii]
             rw [this]
             exact g5.set hx (by show VR j _ e.val; rw [h6]; exact h2)
           · rw [Array.getElem?_modify] at he
             split at he
             · cases hc:ces[i']? with
               | none=>rw [hc] at he; simp at he
               | some e0=>rw [hc] at he; simp at he; rw [←he]; show e0.born=i'; exact g6 _ _ hc
             · exact g6 _ _ he
           · rw [hq]
             simp [Instr.mapEntry,q_underlying ht,q_getMap g4,hck,k1,h3',hkt,hborn,goInt,q_setObj g4 (fun _ _ _ e=>by cases e)]
           · exact .tup _ _ (.cons _ _ _ _ h2 (.cons _ _ _ _ (.int _ _) .nil))
         · cases hr
       · cases hr
     · cases hr
   · cases hr
 · cases hr
theorem s_mest {t:TypeId} {m s x:Operand} (hT:TmR j nt tm a.tmps) (hR:RB P j h.blk n w) (hN:n≤N) (hop:o.op = .entryStore t m s x) (hr:r_mest (cA m) (cA s) (cA x) tm h = .val v h'):OpOk P o a w j h.blk v h'.blk N:=by
 unfold r_mest at hr
 have hm:=evA hT m
 have hs:=evA hT s
 have hx:=evA hT x
 split at hr
 · rename_i f k i0 e1 e2
   rw [e1] at hm
   rw [e2] at hs
   split at hr
   · rename_i i
     split at hr
     · rename_i es hb
       split at hr
       · rename_i kv hi
         cases hr
         generalize hq:a.eval m=q at hm
         generalize hqs:a.eval s=q2 at hs
         cases hs
         cases hm with
         | map _ l hj =>
         obtain ⟨l',g1,g2,g3,ces,g4,g5,g6⟩:=hR.blk f _ hb
         have g2:=g2 trivial
         rw [g1] at hj; cases hj
         have hlen:ces.size=es.length:=by simpa using g5.length
         have hlt:i < ces.size:=by rw [hlen]; exact (List.getElem?_eq_some_iff.1 hi).1
         have hc:ces[i]? = some ces[i]:=Array.getElem?_eq_getElem hlt
         have hfi:ces.findIdx? (fun e=>(e.born:Int)==(i:Int))=some i:=by
          rw [Array.findIdx?_eq_some_iff_getElem]
          refine ⟨hlt,?_,fun k hk=>?_⟩
          · have:=g6 _ _ hc
            simp [this]
          · have:=g6 k _ (Array.getElem?_eq_getElem (by omega))
            simp [this]; omega
         have hkey:VR j kv.1 ces[i].key:=by
          obtain ⟨kk,vv⟩:=kv
          have:∀ {es:List (AV × AV)} {cl:List MapEntry},EsR j es cl→∀ {i:Nat} {kk vv:AV} {e:MapEntry},es[i]? = some (kk,vv)→cl[i]? = some e→VR j kk e.key:=by
           intro es cl hE
           induction hE with
           | nil=>intro i kk vv e h; cases i <;> cases h
           | cons k0 v0 es0 e0 ces0 hk0 hv0 _ ih =>
            intro i kk vv e h1 h2
            cases i with
            | zero=>cases h1; cases h2; exact hk0
            | succ i=>exact ih h1 h2
          exact this g5 hi (by simp)
         have hrun:(Instr.entryStore t (a.eval m) (a.eval s) (a.eval x)).run P w = .ok () { w with heap:=w.heap.setIfInBounds l.blk (.map (ces.modify i fun e=>{ e with val:=a.eval x }) (ces.modify i fun e=>{ e with val:=a.eval x }).size) }:=by
          rw [hq,hqs]
          simp [Instr.entryStore,asInt,asIntOf,q_getMap g4,hfi,q_setObj g4 (fun _ _ _ e=>by cases e)]
         have hes:EsR j (es.set i (kv.1,(cA x).ev tm)) (ces.modify i fun e=>{ e with val:=a.eval x }).toList:=by
          have:(ces.modify i fun e=>{ e with val:=a.eval x }).toList=ces.toList.set i { ces[i] with val:=a.eval x }:=by
           rw [Array.toList_modify]
           apply List.ext_getElem?
           intro i'
           rw [List.getElem?_modify,List.getElem?_set]
           by_cases hii:i=i'
           · subst hii
             simp [hlt]
           · simp [hii]
          rw [this]
          exact g5.set hkey hx
         obtain ⟨r1,r2⟩:=RB.update hR f ⟨_,hb,trivial⟩ g1 (.map (es.set i (kv.1,(cA x).ev tm))) (w':={ w with heap:=w.heap.setIfInBounds l.blk (.map (ces.modify i fun e=>{ e with val:=a.eval x }) (ces.modify i fun e=>{ e with val:=a.eval x }).size) }) (by simp) (fun k hk=>setIfInBounds_ne _ _ _ _ hk) rfl rfl rfl
          ⟨g3,_,by simp [g2],hes,fun i' e' he=>by
           rw [Array.getElem?_modify] at he
           split at he
           · cases hc:ces[i']? with
             | none=>rw [hc] at he; simp at he
             | some e0=>rw [hc] at he; simp at he; rw [←he]; show e0.born=i'; exact g6 _ _ hc
           · exact g6 _ _ he⟩
         refine ⟨undef,{ w with heap:=w.heap.setIfInBounds l.blk (.map (ces.modify i fun e=>{ e with val:=a.eval x }) (ces.modify i fun e=>{ e with val:=a.eval x }).size) },.skip,?_,.inr ⟨rfl,rfl⟩,j,VRs.undef,?_,?_⟩
         · simp only [execOp,hop]
           exact run_u hrun
         · rw [H.blk_put]; exact r1.sub (fun _ _ h=>h) hN
         · rw [H.blk_put]; exact r2
       · cases hr
     · cases hr
   · cases hr
 · cases hr
theorem s_rngm {t kt et:TypeId} {x:Operand} (hT:TmR j nt tm a.tmps) (hR:RB P j h.blk n w) (hf:j h.next=none) (hN:n≤N) (hN':h'.next.toN≤N) (hop:o.op = .range t x) (ht:P.underlying t=some (.map kt et))
 (hr:r_rngm (cA x) tm h = .val v h'):OpOk P o a w j h.blk v h'.blk N:=by
 unfold r_rngm at hr
 have hx:=evA hT x
 split at hr
 · rename_i e1
   rw [e1] at hx
   cases hr
   rw [H.blk_add]
   generalize hq:a.eval x=q at hx
   cases hx
   refine OpOk.new (f:=h.next) (base:=0) (csz:=0) (cv:=.pointer (some ⟨w.heap.size,0,none⟩)) (ob:=.mapIter none 0 #[] 0) ?_ hR hf hN (H.add_toN _ _ hN') (fun j' _ _ hj=>.ptr _ 0 _ hj (Nat.le_refl _))
    (fun j' hj=>⟨rfl,0,#[],0,heap_push_new _ _⟩)
   simp only [execOp,hop]
   refine run_v ?_
   simp [Instr.range,q_underlying ht,hq,newObj,Sem.run]
 · rename_i m e1
   rw [e1] at hx
   split at hr
   · rename_i es hb
     cases hr
     rw [H.blk_add]
     generalize hq:a.eval x=q at hx
     cases hx with
     | map _ l hj =>
     obtain ⟨l',g1,g2,g3,ces,g4,g5,g6⟩:=hR.blk m _ hb
     rw [g1] at hj; cases hj
     have hlen:ces.size=es.length:=by have:=g5.length; simpa using this
     refine OpOk.new (f:=h.next) (base:=0) (csz:=0) (cv:=.pointer (some ⟨w.heap.size,0,none⟩)) (ob:=.mapIter (some l.blk) ces.size #[] ces.size) ?_ hR hf hN (H.add_toN _ _ hN') (fun j' _ _ hj=>.ptr _ 0 _ hj (Nat.le_refl _))
      (fun j' hj=>⟨rfl,l,#[],hj _ _ g1,by rw [hlen]; exact heap_push_new _ _,.inl ⟨rfl,rfl⟩⟩)
     simp only [execOp,hop]
     refine run_v ?_
     simp only [Instr.range,Sem.run_bind,q_underlying ht,Result.andThen_ok,hq,q_getMap g4,Sem.run_pure]
     rfl
   · cases hr
 · cases hr
theorem forced1:(Question.mapNext 1).forced=true:=by rfl
theorem EsR.nil_inv {ces:Array MapEntry} (h:EsR j [] ces.toList):ces=#[]:=by
 generalize hl:ces.toList=l at h
 cases h
 exact Array.ext' hl
theorem EsR.one_inv {k v:AV} {ces:Array MapEntry} (h:EsR j [(k,v)] ces.toList):∃ e,ces=#[e]∧VR j k e.key∧VR j v e.val:=by
 generalize hl:ces.toList=l at h
 cases h with
 | cons _ _ _ e ces' hk hv hes =>
  cases hes
  exact ⟨e,Array.ext' (by simpa using hl),hk,hv⟩
theorem s_nxtm {x:Operand} (hT:TmR j nt tm a.tmps) (hR:RB P j h.blk n w) (hN:n≤N) (hop:o.op = .next x false) (hr:r_nxtm (cA x) tm h = .val v h'):OpOk P o a w j h.blk v h'.blk N:=by
 unfold r_nxtm at hr
 have hx:=evA hT x
 split at hr
 · rename_i f e1
   rw [e1] at hx
   generalize hq:a.eval x=q at hx
   cases hx with
   | ptr _ _ l hj hbase =>
   have hbase0:0 - l.base=0:=Nat.zero_sub _
   rw [hbase0] at hq
   split at hr
   · rename_i hb
     cases hr
     obtain ⟨l',g1,g2,g3,since,seen,last,g4⟩:=hR.blk f _ hb
     rw [g1] at hj; cases hj
     refine OpOk.same (cv:=.tuple #[.bool false]) ?_ (.tup _ _ (.cons _ _ _ _ (.bool _) .nil)) hR hN
     simp only [execOp,hop]
     refine run_v ?_
     simp [Instr.next,hq,q_getObj g4 (fun _ _ _ e=>by cases e)]
   · rename_i m n' pos hb
     obtain ⟨l',g1,g2,g3,lm,seen,g4,g5,g6⟩:=hR.blk f _ hb
     have g2:=g2 trivial
     rw [g1] at hj; cases hj
     have hget:=q_getObj (P:=P) g5 (fun _ _ _ e=>by cases e)
     unfold nxtmK at hr
     split at hr
     · rename_i hm
       obtain ⟨lm',k1,k2,k3,ces,k4,k5,k6⟩:=hR.blk m _ hm
       rw [k1] at g4; cases g4
       have:=k5.nil_inv
       subst this
       split at hr
       · cases hr
         have hseen:seen=#[]:=by rcases g6 with ⟨_,h⟩ | ⟨_,h,_⟩ <;> first | exact h | omega
         subst hseen
         refine OpOk.same (cv:=.tuple #[.bool false]) ?_ (.tup _ _ (.cons _ _ _ _ (.bool _) .nil)) hR hN
         simp only [execOp,hop]
         refine run_v ?_
         simp [Instr.next,hq,hget,q_getMap k4,forced1]
       · cases hr
     · rename_i k v0 hm
       obtain ⟨lm',k1,k2,k3,ces,k4,k5,k6⟩:=hR.blk m _ hm
       rw [k1] at g4; cases g4
       obtain ⟨e,rfl,hk,hv⟩:=k5.one_inv
       have hborn:e.born=0:=k6 0 e rfl
       split at hr
       · split at hr
         · cases hr
           have hseen:seen=#[]:=by rcases g6 with ⟨_,h⟩ | ⟨h,_,_⟩ <;> first | exact h | cases h
           subst hseen
           obtain ⟨r1,r2⟩:=RB.update hR f ⟨_,hb,trivial⟩ g1 (.miter (some m) 1 1) (w':={ w with heap:=w.heap.setIfInBounds l.blk (.mapIter (some lm.blk) 1 #[0] 1) }) (by simp) (fun k hk=>setIfInBounds_ne _ _ _ _ hk) rfl rfl rfl
            ⟨g3,lm,#[0],k1,Array.getElem?_setIfInBounds_self_of_lt (g2 trivial),.inr ⟨rfl,rfl,rfl⟩⟩
           refine ⟨.tuple #[.bool true,e.key,e.val],_,.value (.tuple #[.bool true,e.key,e.val]),?_,.inl rfl,j,.tup _ _ (.cons _ _ _ _ (.bool _) (.cons _ _ _ _ hk (.cons _ _ _ _ hv .nil))),by rw [H.blk_put]; exact r1.sub (fun _ _ h=>h) hN,by rw [H.blk_put]; exact r2⟩
           simp only [execOp,hop]
           refine run_v ?_
           have hset:(setObj l.blk (.mapIter (some lm.blk) 1 #[0] 1)).run P w = .ok () { w with heap:=w.heap.setIfInBounds l.blk (.mapIter (some lm.blk) 1 #[0] 1) }:=q_setObj g5 (fun _ _ _ e=>by cases e)
           simp [Instr.next,hq,hget,q_getMap k4,forced1,hborn,hset]
         · cases hr
           have hseen:seen=#[0]:=by rcases g6 with ⟨h,_⟩ | ⟨_,_,h⟩ <;> first | exact h | cases h
           subst hseen
           refine OpOk.same (cv:=.tuple #[.bool false]) ?_ (.tup _ _ (.cons _ _ _ _ (.bool _) .nil)) hR hN
           simp only [execOp,hop]
           refine run_v ?_
           simp [Instr.next,hq,hget,q_getMap k4,forced1,hborn]
       · cases hr
     · cases hr
   · cases hr
 · cases hr
end
end Go.Ev
namespace Go.Ev
variable {P:Env}
section
variable {o:Oper} {a:Act} {w:World} {j:Inj} {n N nt:Nat} {tm:Tm} {h h':H} {v:AV}
theorem bad_val {tm:Tm} {h h':H} {v:AV} (hr:CO.bad.run tm h = .val v h'):False:=by cases (show Out.fail = .val v h' from hr)
theorem op_val0 (hT:TmR j nt tm a.tmps) (hR:RB P j h.blk n w) (hf:j h.next=none) (hN:n≤N) (hr:(co0 P o).run tm h = .val v h') (hN':h'.next.toN≤N):OpOk P o a w j h.blk v h'.blk N:=by
 unfold co0 at hr
 split at hr
 · rename_i x hop; exact s_mv hT hR hN (by simp only [execOp,hop]) hr
 · rename_i x hop; exact s_mv hT hR hN (by simp only [execOp,hop]) hr
 · rename_i c x y hop; exact s_pick hT hR hN (by simp only [execOp,hop]) hr
 · rename_i e hop
   split at hr
   · rename_i zs hz; exact s_alloc (tm:=tm) hR hf hN hN' hop hz hr
   · exact (bad_val hr).elim
 · rename_i e x hop; exact s_box hT hR hf hN hN' hop hr
 · rename_i t parts hop
   split at hr
   · rename_i zs fs hz ht
     split at hr
     · rename_i pl hpl
       split at hr
       · rename_i ps hps; exact s_buildS hT hR hN hop hz ht hpl hps hr
       · exact (bad_val hr).elim
     · exact (bad_val hr).elim
   · rename_i zs len e hz ht
     split at hr
     · rename_i m hs; exact s_buildA hT hR hN hop hz ht hs hr
     · exact (bad_val hr).elim
   · exact (bad_val hr).elim
 · rename_i t len parts hop
   split at hr
   · rename_i e ht
     split at hr
     · rename_i m zs hs hz
       split at hr
       · rename_i hc; exact s_bslice hT hR hf hN hN' hop ht hs hz hc hr
       · exact (bad_val hr).elim
     · exact (bad_val hr).elim
   · exact (bad_val hr).elim
 · rename_i t x hop
   unfold coLoad at hr
   split at hr
   · rename_i m ha hs; exact s_loadn hT hR hN hop ha hs hr
   · rename_i m ha hs; exact s_load1 hT hR hN hop ha hr
   · exact (bad_val hr).elim
 · rename_i t x y hop
   split at hr
   · rename_i m hs; exact s_store hT hR hN hop hs hr
   · exact (bad_val hr).elim
 · rename_i x hop; exact s_nilchk hT hR hN hop hr
 · rename_i op t x y yt hop
   split at hr
   · rename_i fs ht
     split at hr
     · rename_i p hp; exact s_eqp (d:=9) (by omega) hT hR hN hop ht hp (.inl ⟨rfl,rfl⟩) hr
     · rename_i p hp; exact s_eqp (d:=9) (by omega) hT hR hN hop ht hp (.inr ⟨rfl,rfl⟩) hr
     · exact (bad_val hr).elim
   · rename_i d _ ht
     split at hr
     · rename_i c hc; exact s_bin hT hR hN hop ht hc hr
     · exact (bad_val hr).elim
   · exact (bad_val hr).elim
 · rename_i op t x hop; exact s_un hT hR hN hop hr
 · rename_i s d x hop
   split at hr
   · rename_i k1 k2 h1 h2; exact s_cvi hT hR hN hop h1 h2 hr
   · rename_i h1 h2; exact s_cvs hT hR hN hop h1 h2 hr
   · rename_i e h1 h2
     split at hr
     · rename_i he; exact s_cvbs hT hR hN hop h1 he h2 hr
     · exact (bad_val hr).elim
   · rename_i e h1 h2
     split at hr
     · rename_i he; exact s_cvsb hT hR hf hN hN' hop h1 h2 he hr
     · exact (bad_val hr).elim
   · exact (bad_val hr).elim
 · rename_i t x hop
   split at hr
   · exact (bad_val hr).elim
   · rename_i td hni ht; exact s_mkif hT hR hN hop ht (fun ms e=>hni ms e) hr
   · exact (bad_val hr).elim
 · rename_i f first captured hop; exact s_mkfn hT hR hN hop hr
 · rename_i t hop; exact s_mkmap (tm:=tm) hR hf hN hN' hop hr
 · rename_i t l c hop
   split at hr
   · rename_i e ht
     split at hr
     · rename_i m b zs hs hb hz
       split at hr
       · rename_i hc; exact s_mksl hT hR hf hN hN' hop ht hs hb hz hc hr
       · exact (bad_val hr).elim
     · exact (bad_val hr).elim
   · exact (bad_val hr).elim
 · rename_i t x lo hi mx hop
   split at hr
   · exact (bad_val hr).elim
   · rename_i hok
     split at hr
     · rename_i ht
       split at hr
       · exact s_slstr hT hR hN hop ht hr
       · exact (bad_val hr).elim
     · rename_i e ht
       split at hr
       · rename_i m hs; exact s_slsl hT hR hN hop hok ht hs hr
       · exact (bad_val hr).elim
     · rename_i len e ht
       split at hr
       · rename_i sz hs; exact s_slarrA hT hR hN hop hok ht hs hr
       · exact (bad_val hr).elim
     · rename_i arr ht
       split at hr
       · rename_i len e ht'
         split at hr
         · rename_i sz hs; exact s_slarrP hT hR hN hop hok ht ht' hs hr
         · exact (bad_val hr).elim
       · exact (bad_val hr).elim
     · exact (bad_val hr).elim
 · rename_i t x f hop
   split at hr
   · rename_i fs ht
     split at hr
     · rename_i fd hfs
       split at hr
       · rename_i m hs; exact s_fa hT hR hN hop ht hfs hs hr
       · exact (bad_val hr).elim
     · exact (bad_val hr).elim
   · exact (bad_val hr).elim
 · rename_i t x f hop
   split at hr
   · rename_i fs ht
     split at hr
     · rename_i fd hfs
       split at hr
       · rename_i g m hg hs; exact s_fld hT hR hN hop ht hfs hg hs hr
       · exact (bad_val hr).elim
     · exact (bad_val hr).elim
   · exact (bad_val hr).elim
 · rename_i t x i hop
   split at hr
   · rename_i e ht
     split at hr
     · rename_i m hs; exact s_ia hT hR hN hop ht hs hr
     · exact (bad_val hr).elim
   · rename_i len e ht
     split at hr
     · rename_i m hs; exact s_iarr hT hR hN hop ht hs hr
     · exact (bad_val hr).elim
   · exact (bad_val hr).elim
 · rename_i t x i hop
   split at hr
   · rename_i ht; exact s_ixs hT hR hN hop ht hr
   · rename_i len e ht
     split at hr
     · rename_i g m hg hs; exact s_ixa hT hR hN hop ht hg hs hr
     · exact (bad_val hr).elim
   · exact (bad_val hr).elim
 · rename_i t x k ok hop
   split at hr
   · rename_i kt e ht
     split at hr
     · rename_i z kp hz hp; exact s_lkp hT hR hN hop ht hz hp hr
     · exact (bad_val hr).elim
   · exact (bad_val hr).elim
 · rename_i t m k x hop
   split at hr
   · rename_i kt e ht
     split at hr
     · rename_i kp hp; exact s_mupd hT hR hN (.inl hop) ht hp hr
     · exact (bad_val hr).elim
   · exact (bad_val hr).elim
 · rename_i t m k x hop
   split at hr
   · rename_i kt e ht
     split at hr
     · rename_i kp hp; exact s_mupd hT hR hN (.inr hop) ht hp hr
     · exact (bad_val hr).elim
   · exact (bad_val hr).elim
 · rename_i t x hop
   split at hr
   · rename_i kt e ht; exact s_rngm hT hR hf hN hN' hop ht hr
   · exact (bad_val hr).elim
 · rename_i x hop; exact s_nxtm hT hR hN hop hr
 · rename_i x i hop; exact s_ext hT hR hN hop hr
 · rename_i c hop
   split at hr
   · rename_i x hc ha
     split at hr
     · rename_i ht; exact s_lens hT hR hN hop hc ha ht hr
     · rename_i e ht; exact s_len hT hR hN hop hc ha ht hr
     · rename_i k e ht; exact s_lenm hT hR hN hop hc ha ht hr
     · rename_i m e ht; exact s_lenc (tm:=tm) hR hN hop hc ha ht (.inl ⟨e,rfl⟩) hr
     · rename_i arr ht
       split at hr
       · rename_i m e ht'; exact s_lenc (tm:=tm) hR hN hop hc ha ht (.inr ⟨arr,e,rfl,ht'⟩) hr
       · exact (bad_val hr).elim
     · exact (bad_val hr).elim
   · rename_i x hc ha
     split at hr
     · rename_i e ht; exact s_cap hT hR hN hop hc ha ht hr
     · exact (bad_val hr).elim
   · rename_i s x hc ha
     split at hr
     · rename_i e e' ht hx
       split at hr
       · rename_i m b hs hb
         split at hr
         · rename_i zs hz
           split at hr
           · rename_i hl; exact s_app hT hR hf hN hN' hop hc ha ht hx (fun k e=>by cases e) hs hb hz (Nat.eq_of_beq_eq_true hl) hr
           · exact (bad_val hr).elim
         · exact (bad_val hr).elim
       · exact (bad_val hr).elim
     · rename_i e ht hx
       split at hr
       · rename_i m b hs hb
         split at hr
         · rename_i zs hz
           split at hr
           · rename_i hl; exact s_app hT hR hf hN hN' hop hc ha ht hx (fun k e=>by cases e) hs hb hz (Nat.eq_of_beq_eq_true hl) hr
           · exact (bad_val hr).elim
         · exact (bad_val hr).elim
       · exact (bad_val hr).elim
     · rename_i e k ht hx
       split at hr
       · rename_i m b zs hs hb hz
         split at hr
         · rename_i hl; exact s_appz hT hR hf hN hN' hop hc ha ht hx hs hb hz (Nat.eq_of_beq_eq_true hl) hr
         · exact (bad_val hr).elim
       · exact (bad_val hr).elim
     · exact (bad_val hr).elim
   · rename_i d s hc ha
     split at hr
     · rename_i e ht
       split at hr
       · rename_i m hs; exact s_cpy hT hR hN hop hc ha ht hs hr
       · exact (bad_val hr).elim
     · exact (bad_val hr).elim
   · rename_i xs hc; exact s_mx (isMax:=true) hT hR hN hop hc hr
   · rename_i xs hc; exact s_mx (isMax:=false) hT hR hN hop hc hr
   · rename_i x hc ha
     split at hr
     · rename_i e ht
       split at hr
       · rename_i m zs hs hz
         split at hr
         · rename_i hl; exact s_clr hT hR hN hop hc ha ht hz (Nat.eq_of_beq_eq_true hl) hr
         · exact (bad_val hr).elim
       · exact (bad_val hr).elim
     · exact (bad_val hr).elim
   · cases hr
   · exfalso
     change r_callv _ _ tm h = .val v h' at hr
     unfold r_callv at hr
     split at hr <;> cases hr
   · exact (bad_val hr).elim
 · exact (bad_val hr).elim
def CallAt (P:Env) (o:Oper) (a:Act) (w:World) (j:Inj) (args:List AV):Callee→Prop
 | .fn f=>∃ vs:Array Value,(execOp a.eval o).run P w=(callFunc f vs).run P w∧VRs j args vs.toList
 | .yld l=>∃ lc,∃ vs:Array Value,j l=some lc∧(execOp a.eval o).run P w=(Instr.yield lc.blk vs).run P w∧VRs j args vs.toList
theorem run_call {o:CO} {tm:Tm} {h:H} {f:Callee} {args:List AV} (hr:o.run tm h = .call f args):(∃ F as,o = .call F as)∨(∃ x as,o = .callv x as):=by
 cases o
 case call=>exact .inl ⟨_,_,rfl⟩
 case callv=>exact .inr ⟨_,_,rfl⟩
 all_goals exfalso
 all_goals simp only [CO.run,r_bad,r_mv,r_pick,r_box,r_alloc,r_build,r_bslice,r_ld1,r_ldn,r_st,r_nilchk,r_bin,r_eqp,r_un,r_cvi,r_cvs,r_cvbs,r_cvsb,r_mkif,r_mkfn,r_mkmap,r_mksl,
  r_slstr,r_slsl,r_slarr,r_fa,r_ia,r_iarr,r_fld,r_ixs,r_ixa,r_lkp,r_mupd,r_rngs,r_nxts,r_rngm,r_nxtm,r_ext,r_len,r_lens,r_lenm,r_lenc,r_cap,r_app,r_appz,r_cpy,r_mx,r_clr,r_ta,r_peq,r_ieq,r_cup,r_cpu,r_sdata,r_ustr,r_xib,r_xct,r_xmk,r_ment,r_mest,mentA,slK,slL,nxtmK,appzA,appendA,appK,outV,outH] at hr
 all_goals repeat' split at hr
 all_goals first | (cases hr; done) | skip
theorem stn_next {h h':H} {f:Pos} {o:Nat} {vs:List AV} (he:h.stn f o vs=some h'):h'.next=h.next:=by
 obtain ⟨c,lo,hi,_,_,_,_,_,rfl⟩:=stn_some he
 rw [H.next_put]
theorem run_mono {o:CO} {tm:Tm} {h h':H} {v:AV} (hr:o.run tm h = .val v h'):h.next.toN≤h'.next.toN:=by
 cases o
 case call=>cases hr
 case callv =>
  simp only [CO.run,r_callv] at hr
  split at hr <;> cases hr
 all_goals simp only [CO.run,r_bad,r_mv,r_pick,r_box,r_alloc,r_build,r_bslice,r_ld1,r_ldn,r_st,r_nilchk,r_bin,r_eqp,r_un,r_cvi,r_cvs,r_cvbs,r_cvsb,r_mkif,r_mkfn,r_mkmap,r_mksl,
  r_slstr,r_slsl,r_slarr,r_fa,r_ia,r_iarr,r_fld,r_ixs,r_ixa,r_lkp,r_mupd,r_rngs,r_nxts,r_rngm,r_nxtm,r_ext,r_len,r_lens,r_lenm,r_lenc,r_cap,r_app,r_appz,r_cpy,r_mx,r_clr,r_ta,r_peq,r_ieq,r_cup,r_cpu,r_sdata,r_ustr,r_xib,r_xct,r_xmk,r_ment,r_mest,mentA,slK,slL,nxtmK,appzA,appendA,appK,outV,outH] at hr
 all_goals repeat' split at hr
 all_goals first
  | (cases hr; done)
  | (cases hr; exact Nat.le_refl _)
  | (cases hr; simp only [H.next_add,H.next_put,Pos.toN_succ]; omega)
  | (cases hr; rw [iceL_next]; exact Nat.le_refl _)
  | (cases hr; rename_i hs; rw [stn_next hs]; exact Nat.le_refl _)
  | skip
theorem co0_call {F:FuncId} {as:List CA} (he:co0 P o = .call F as):∃ c args,o.op = .call c∧c.callee = .value (.func F)∧c.args.toList=args∧as=args.map cA:=by
 unfold co0 at he
 split at he
 case h_29 c hop =>
  split at he
  case h_8 hc=>cases he; exact ⟨_,_,hop,hc,rfl,rfl⟩
  all_goals repeat' split at he
  all_goals cases he
 all_goals (try unfold coLoad at he)
 all_goals repeat' split at he
 all_goals cases he
theorem co0_callv {x:CA} {as:List CA} (he:co0 P o = .callv x as):∃ c y,o.op = .call c∧c.callee = .value y∧x=cA y∧as=c.args.toList.map cA:=by
 unfold co0 at he
 split at he
 case h_29 c hop =>
  split at he
  case h_9 hc=>cases he; exact ⟨_,_,hop,hc,rfl,rfl⟩
  all_goals repeat' split at he
  all_goals cases he
 all_goals (try unfold coLoad at he)
 all_goals repeat' split at he
 all_goals cases he
theorem op_call0 {f:Callee} {args:List AV} (hT:TmR j nt tm a.tmps) (hr:(co0 P o).run tm h = .call f args):CallAt P o a w j args f:=by
 rcases run_call hr with ⟨F,as,e⟩ | ⟨x,as,e⟩
 · obtain ⟨c,xs,hop,hc,hxs,rfl⟩:=co0_call e
   rw [e] at hr
   cases hr
   refine ⟨c.args.map a.eval,?_,?_⟩
   · simp only [execOp,hop,resolve,hc]
     simp [Act.eval,Deferred.ofValue,invoke]
   · have:=evAs hT xs
     rw [←hxs] at this ⊢
     simpa using this
 · obtain ⟨c,y,hop,hc,rfl,rfl⟩:=co0_callv e
   rw [e] at hr
   have hy:=evA hT y
   have has:=evAs hT c.args.toList
   change r_callv _ _ tm h=_ at hr
   unfold r_callv at hr
   split at hr
   · rename_i F first captured e1
     rw [e1] at hy
     cases hr
     generalize hq:a.eval y=q at hy
     cases hy with
     | fn _ _ _ vf vc h1 h2 =>
     refine ⟨vf++c.args.map a.eval++vc,?_,?_⟩
     · simp only [execOp,hop,resolve,hc,hq,Deferred.ofValue]
       simp [invoke]
     · rw [Array.toList_append,Array.toList_append,List.append_assoc]
       exact h1.append ((by simpa using has:VRs j _ (c.args.map a.eval).toList).append h2)
   · rename_i l e1
     rw [e1] at hy
     cases hr
     generalize hq:a.eval y=q at hy
     cases hy with
     | yld _ lc hj =>
     refine ⟨lc,c.args.map a.eval,hj,?_,by simpa using has⟩
     simp only [execOp,hop,resolve,hc,hq,Deferred.ofValue]
     simp [invoke]
   · cases hr
end
end Go.Ev
